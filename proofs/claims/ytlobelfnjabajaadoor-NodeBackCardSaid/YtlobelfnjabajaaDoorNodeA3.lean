/- nodes: NodeGets, NodeBack -/
import Derived.Test.YtlobelfnjabajaaDoorNodeA2
namespace Go.Proofs.YtlobelfnjabajaaDoor
open Go.RowKit
set_option linter.unusedVariables false
set_option linter.unusedSimpArgs false

set_option maxRecDepth 100000 in
set_option maxHeartbeats 1000000 in
theorem nodeGets_walk (lf : Bool) (v : Value) (l : List UInt8) (w : World) (A : Nat → Addr) (hs : Sents w A) (hb : BytesAt w v l) :
    Calls Tryd.prog 8 #[.bool lf, v] w fun e w' => e = .returned (.bool true) ∧ Below w.heap.size w w' := by
  obtain ⟨a, c, rfl, hlc, hcm, -⟩ := id hb
  unfold maxLen at hcm
  have HS := Lib.hid hs
  have HB := Lib.hid hb
  clear hs hb
  by_cases hl : 3000 < l.length
  · have hli : (3000 : Int) < (l.length : Int) := by omega
    go_enter Tryd.func8, Tryd.ntmps8
    go_wp2_with (go_at_call 15; (refine (awake7_any _ A HS.out).mono ?_); (rintro e w1 ⟨rfl, hb1⟩); (have HB1 := Lib.hid hb1); (clear hb1))
    go_ret
    exact ⟨rfl, HB1.out⟩
  have hli : (l.length : Int) ≤ 3000 := by omega
  have hl6 : l.length ≤ 1000000 := by omega
  go_enter Tryd.func8, Tryd.ntmps8
  go_upto_region 4 with (at_builtin; refine wpList_append_bytes rfl (.tmp 15) (.tmp 16) rfl w.heap.size _ [] rfl (Own.empty w _ (Nat.le_refl _)) _ l rfl (HB.out.alloc _) (by simp; omega) (by simp) ?_)
  intro v1 w1 hown hgrow hnn
  have hb1 := ((Below.refl w.heap.size w).alloc (Nat.le_refl _) (.cells #[] 5)).grown hgrow (by simp) (by intro k hk; simp [Value.ownBlock] at hk; omega)
  have HO := Lib.hid hown
  have HB1 := Lib.hid hb1
  clear hgrow hown hb1
  rcases HO.out.row with ⟨rfl, _⟩ | ⟨g, cap, rfl, hg1, hg2, hg3, hg4⟩
  · simp at hnn
  unfold maxLen at hg4
  clear hnn
  cases hfin : getOk lf l with
  | false =>
    have HFIN := Lib.hid hfin
    clear hfin
    go_upto_region 4 with fail
    go_upto_region 5 with (go_at_call 17; (refine (nodeGet_bad lf l HFIN.out _ _ _ A (HS.out.below HB1.out) HO.out.bytes hl6).mono ?_); (rintro e w2 ⟨⟨a1, a2, a3, c1, c2, c3, t, x, lp, rfl, hE, hc1, hc2, hc3⟩, hb2⟩); (have HE := Lib.hid hE); (have HO2 := Lib.hid (HO.out.below hb2 (Nat.le_refl _))); (have HB2 := Lib.hid (below_step HB1.out hb2)); (have hg5 := Nat.lt_of_lt_of_le hg2 hb2.size); (clear hE hb2))
    refine wp_name fun V hV => ?_
    obtain ⟨nb, hnb⟩ : ∃ nb, w2.heap.size = nb := ⟨_, rfl⟩
    have HN := Lib.hid (show BoxAt V nb [.bool false, .slice a1 0 c1, .slice a2 0 c2, .slice a3 0 c3] by rw [hV]; exact BoxAt.newAt _ _ hnb [_, _, _, _] _)
    have hal : Below w2.heap.size w2 V := by rw [hV]; exact (Below.refl _ _).alloc (Nat.le_refl _) _
    have HEV := Lib.hid (HE.out.below hal)
    have HOV := Lib.hid (HO2.out.below hal (Nat.le_refl _))
    have HBV := Lib.hid (below_step HB2.out hal)
    have hgn : g < nb := by rw [← hnb]; exact hg5
    rw [hnb]
    clear hV hnb hal hg5
    go_wp2_with fail
    go_loopw [8] (fun i wr => ∃ j : Nat, j ≤ l.length ∧ i = .int .i64 j ∧ ∃ l', l'.length = l.length ∧ Own wr w.heap.size (.slice (some ⟨g, 0, none⟩) l.length cap) l' ∧ V.grownBy wr (some g)) (fun i _ => l.length - (intOf i).toNat)
    case atStart => exact ⟨0, by omega, rfl, l, rfl, HOV.out, World.grownBy.refl _ _⟩
    case round =>
      obtain ⟨j, hj, rfl, l', hl', ho', hgr⟩ := hrel
      have HO' := Lib.hid ho'
      have HG := Lib.hid hgr
      have HL' := Lib.hid hl'
      clear ho' hgr hl'
      by_cases hlt : j < l.length
      · obtain ⟨y, hy⟩ := getElem?_some_of_lt (show j < l'.length by have := HL'.out; omega)
        have hcell := HO'.out.cell HL'.out.symm hy
        have hfree := HO'.out.free HL'.out.symm j
        have hlt1 : (j : Int) < (l.length : Int) := by omega
        have HW := Lib.hid (HO'.out.set (k := j) HL'.out.symm (255 ^^^ y))
        clear hy
        go_wp2_with fail
        go_roundw
        case rel =>
          rw [not_u8]
          exact ⟨j + 1, by omega, by go_num, _, by rw [List.length_set, HL'.out], HW.out, grownBy_set HG.out _ _⟩
        case measure => simp [intOf]; omega
      · have hge : (l.length : Int) ≤ (j : Int) := by omega
        have hbr := HBV.out.grown HG.out HBV.out.size (fun k hk => by cases hk; exact hg1)
        have HBR := Lib.hid hbr
        have ER := Lib.hid (HEV.out.grown HG.out (fun k hk => by cases hk; exact hg2))
        have HNR := Lib.hid (HN.out.grownR HG.out (by simpa using Nat.ne_of_lt hgn))
        clear hbr hj
        go_upto_region 10 with (go_at_call 37; (refine (refGet_bad lf l HFIN.out _ _ _ (HB.out.below HBR.out) hl6).mono ?_); (rintro e w3 ⟨⟨a4, a5, a6, c4, c5, c6, rfl⟩, hb3⟩); (have HB3 := Lib.hid (below_step HBR.out hb3)); (have ER3 := Lib.hid (ER.out.below hb3)); (have HN3 := Lib.hid (HNR.out.below hb3)); (clear hb3))
        refine wp_name fun U hU => ?_
        have hal : Below w3.heap.size w3 U := by rw [hU]; exact (Below.refl _ _).alloc (Nat.le_refl _) _
        have EU := Lib.hid (ER3.out.below hal)
        have HNU := Lib.hid (HN3.out.below hal)
        have HBU := Lib.hid (below_step HB3.out hal)
        clear hU hal
        obtain ⟨n0, n1, n2, n3⟩ := HNU.out.four
        have HR1 := Lib.hid (show RowAt eEnt U (.slice a1 0 c1) [] from ⟨a1, c1, rfl, Nat.zero_le _, hc1, .inl rfl⟩)
        have HR2 := Lib.hid (show RowAt eStr U (.slice a2 0 c2) [] from ⟨a2, c2, rfl, Nat.zero_le _, hc2, .inl rfl⟩)
        have HR3 := Lib.hid (show IntsAt U (.slice a3 0 c3) [] from ⟨a3, c3, rfl, Nat.zero_le _, hc3, .inl rfl⟩)
        clear hc1 hc2 hc3
        go_wp2_with (first
          | (go_at_call 38; (refine (tells07_any (HS.out.below HBU.out) _ 1 _ EU.out _ rfl).mono ?_); (rintro e w4 ⟨rfl, rfl⟩))
          | (go_at_call 18; (refine (refSame7_is false false [] [] [] [] [] [] true (nodeEq_self _ _ _ _) a1 a2 a3 none none none c1 c2 c3 0 0 0 _ HR1.out HR2.out HR3.out (RowAt.nil _ _) (RowAt.nil _ _) (IntsAt.nil _)).mono ?_); (rintro e w5 ⟨rfl, hb5⟩); (have HB5 := Lib.hid (below_step HBU.out hb5)); (clear hb5))
          | (go_at_call 15; (refine (awake7_any _ A (HS.out.below HB5.out)).mono ?_); (rintro e w6 ⟨rfl, hb6⟩); (have HB6 := Lib.hid (below_step HB5.out hb6)); (clear hb6)))
        go_ret
        exact ⟨rfl, HB6.out⟩
  | true =>
    have HFIN := Lib.hid hfin
    obtain ⟨es, hes⟩ : ∃ es, getE lf l = es := ⟨_, rfl⟩
    obtain ⟨ks, hks⟩ : ∃ ks, getK lf l = ks := ⟨_, rfl⟩
    obtain ⟨ki, hki⟩ : ∃ ki, getI lf l = ki := ⟨_, rfl⟩
    have HES := Lib.hid hes
    have HKS := Lib.hid hks
    have HKI := Lib.hid hki
    have HSELF := Lib.hid (nodeEq_self lf es ks ki)
    clear hfin hes hks hki
    go_upto_region 4 with fail
    obtain ⟨B1, hB1⟩ : ∃ B1, w1.heap.size = B1 := ⟨_, rfl⟩
    go_upto_region 5 with (go_at_call 17; (refine (nodeGet_ok lf l HFIN.out es ks ki HES.out HKS.out HKI.out _ _ _ A (HS.out.below HB1.out) HO.out.bytes hl6).mono ?_); (rintro e w2 ⟨⟨a1, a2, a3, c1, c2, c3, rfl, hoe, hok, hoi⟩, hb2⟩); (have HOE := Lib.hid hoe); (have HOK := Lib.hid hok); (have HOI := Lib.hid hoi); (have HO2 := Lib.hid (HO.out.below hb2 (Nat.le_refl _))); (have HB2 := Lib.hid (below_step HB1.out hb2)); (have hg5 := Nat.lt_of_lt_of_le hg2 hb2.size); (clear hoe hok hoi hb2))
    refine wp_name fun V hV => ?_
    obtain ⟨nb, hnb⟩ : ∃ nb, w2.heap.size = nb := ⟨_, rfl⟩
    have HN := Lib.hid (show BoxAt V nb [.bool lf, .slice a1 es.length c1, .slice a2 ks.length c2, .slice a3 ki.length c3] by rw [hV]; exact BoxAt.newAt _ _ hnb [_, _, _, _] _)
    have hal : Below w2.heap.size w2 V := by rw [hV]; exact (Below.refl _ _).alloc (Nat.le_refl _) _
    have HEV := Lib.hid (HOE.out.below hal (Nat.le_refl _))
    have HKV := Lib.hid (HOK.out.below hal (Nat.le_refl _))
    have HIV := Lib.hid (HOI.out.below hal (Nat.le_refl _))
    have HOV := Lib.hid (HO2.out.below hal (Nat.le_refl _))
    have HBV := Lib.hid (below_step HB2.out hal)
    have hgn : g < nb := by rw [← hnb]; exact hg5
    rw [hnb]
    clear hV hnb hal hg5
    go_wp2_with fail
    go_loopw [8] (fun i wr => ∃ j : Nat, j ≤ l.length ∧ i = .int .i64 j ∧ ∃ l', l'.length = l.length ∧ Own wr w.heap.size (.slice (some ⟨g, 0, none⟩) l.length cap) l' ∧ V.grownBy wr (some g)) (fun i _ => l.length - (intOf i).toNat)
    case atStart => exact ⟨0, by omega, rfl, l, rfl, HOV.out, World.grownBy.refl _ _⟩
    case round =>
      obtain ⟨j, hj, rfl, l', hl', ho', hgr⟩ := hrel
      have HO' := Lib.hid ho'
      have HG := Lib.hid hgr
      have HL' := Lib.hid hl'
      clear ho' hgr hl'
      by_cases hlt : j < l.length
      · obtain ⟨y, hy⟩ := getElem?_some_of_lt (show j < l'.length by have := HL'.out; omega)
        have hcell := HO'.out.cell HL'.out.symm hy
        have hfree := HO'.out.free HL'.out.symm j
        have hlt1 : (j : Int) < (l.length : Int) := by omega
        have HW := Lib.hid (HO'.out.set (k := j) HL'.out.symm (255 ^^^ y))
        clear hy
        go_wp2_with fail
        go_roundw
        case rel =>
          rw [not_u8]
          exact ⟨j + 1, by omega, by go_num, _, by rw [List.length_set, HL'.out], HW.out, grownBy_set HG.out _ _⟩
        case measure => simp [intOf]; omega
      · have hge : (l.length : Int) ≤ (j : Int) := by omega
        have hbr := HBV.out.grown HG.out HBV.out.size (fun k hk => by cases hk; exact hg1)
        have HBR := Lib.hid hbr
        have ER := Lib.hid (HEV.out.keep HG.out hg2)
        have KR := Lib.hid (HKV.out.keep HG.out hg2)
        have IR := Lib.hid (HIV.out.keep HG.out hg2)
        have HNR := Lib.hid (HN.out.grownR HG.out (by simpa using Nat.ne_of_lt hgn))
        clear hbr hj
        go_upto_region 10 with (go_at_call 37; (refine (refGet_ok lf l HFIN.out es ks ki HES.out HKS.out HKI.out _ _ _ (HB.out.below HBR.out) hl6).mono ?_); (rintro e w3 ⟨⟨a4, a5, a6, c4, c5, c6, rfl, r4, r5, r6⟩, hb3⟩); (have HB3 := Lib.hid (below_step HBR.out hb3)); (have ER3 := Lib.hid (ER.out.below hb3 (Nat.le_refl _))); (have KR3 := Lib.hid (KR.out.below hb3 (Nat.le_refl _))); (have IR3 := Lib.hid (IR.out.below hb3 (Nat.le_refl _))); (have HN3 := Lib.hid (HNR.out.below hb3)); (have R4 := Lib.hid r4); (have R5 := Lib.hid r5); (have R6 := Lib.hid r6); (clear hb3 r4 r5 r6))
        refine wp_name fun U hU => ?_
        obtain ⟨wb, hwb⟩ : ∃ nb, w3.heap.size = nb := ⟨_, rfl⟩
        have HWU := Lib.hid (show BoxAt U wb [.bool lf, .slice a4 es.length c4, .slice a5 ks.length c5, .slice a6 ki.length c6] by rw [hU]; exact BoxAt.newAt _ _ hwb [_, _, _, _] _)
        have hal : Below w3.heap.size w3 U := by rw [hU]; exact (Below.refl _ _).alloc (Nat.le_refl _) _
        have EU := Lib.hid ((ER3.out.below hal (Nat.le_refl _)).at eEnt_ok)
        have KU := Lib.hid ((KR3.out.below hal (Nat.le_refl _)).at eStr_ok)
        have IU := Lib.hid (IR3.out.below hal (Nat.le_refl _)).ints
        have R4U := Lib.hid (R4.out.below hal)
        have R5U := Lib.hid (R5.out.below hal)
        have R6U := Lib.hid (R6.out.below hal)
        have HNU := Lib.hid (HN3.out.below hal)
        have HBU := Lib.hid (below_step HB3.out hal)
        rw [hwb]
        clear hU hal hwb
        obtain ⟨n0, n1, n2, n3⟩ := HNU.out.four
        obtain ⟨o0, o1, o2, o3⟩ := HWU.out.four
        go_wp2_with (first
          | (go_at_call 18; (refine (refSame7_is lf lf es es ks ks ki ki true HSELF.out a1 a2 a3 a4 a5 a6 c1 c2 c3 c4 c5 c6 _ EU.out KU.out IU.out R4U.out R5U.out R6U.out).mono ?_); (rintro e w5 ⟨rfl, hb5⟩); (have HB5 := Lib.hid (below_step HBU.out hb5)); (have HQ5 := Lib.hid hb5); (clear n0 n1 n2 n3 o0 o1 o2 o3); (obtain ⟨n0, n1, n2, n3⟩ := (HNU.out.below hb5).four); (obtain ⟨o0, o1, o2, o3⟩ := (HWU.out.below hb5).four); (clear hb5))
          | (go_at_call 20; (refine (nodeSame_is lf lf es es ks ks ki ki true HSELF.out a1 a2 a3 a4 a5 a6 c1 c2 c3 c4 c5 c6 _ (EU.out.below HQ5.out) (KU.out.below HQ5.out) (IU.out.below HQ5.out) (R4U.out.below HQ5.out) (R5U.out.below HQ5.out) (R6U.out.below HQ5.out)).mono ?_); (rintro e w7 ⟨rfl, hb7⟩); (have HB7 := Lib.hid (below_step HB5.out hb7)); (clear hb7))
          | (go_at_call 15; (refine (awake7_any _ A (HS.out.below HB7.out)).mono ?_); (rintro e w6 ⟨rfl, hb6⟩); (have HB6 := Lib.hid (below_step HB7.out hb6)); (clear hb6)))
        go_ret
        exact ⟨rfl, HB6.out⟩
theorem nodeB_len {lf : Bool} {es : List Nd.Ent} {ks : List ByteArray} {ki : List Int} (hn : nodeB lf es ks ki = true) : es.length ≤ 1000000 ∧ ks.length ≤ 1000000 ∧ ki.length ≤ 1000000 := by
  cases lf with
  | true =>
    obtain ⟨-, rfl, rfl, h⟩ := nodeB_leaf hn
    exact ⟨by omega, by simp, by simp⟩
  | false =>
    unfold nodeB innerB at hn
    simp at hn
    obtain ⟨⟨⟨rfl, h1, h2, h3⟩, -⟩, -⟩ := hn
    exact ⟨by simp, by omega, by omega⟩
theorem nodeL_len {lf : Bool} {es : List Nd.Ent} {ks : List ByteArray} {ki : List Int} (hn : nodeB lf es ks ki = true) (h1 : es.length ≤ 300) (h2 : ks.length ≤ 300) : (nodeL lf es ks ki).length ≤ 1000000 := by
  cases lf with
  | true =>
    obtain ⟨hk, -, -, -⟩ := nodeB_leaf hn
    rw [nodeL_leaf]
    have := entsW_le (ents_few hk) es.length
    omega
  | false =>
    obtain ⟨-, hk⟩ := nodeB_inner hn
    rw [nodeL_inner]
    have := keysW_le (l := ks) (fun k e he => (keyB_bd (keysK_at hk (List.getElem?_eq_some_iff.1 he).1 he)).2) ks.length
    omega
set_option maxRecDepth 100000 in
set_option maxHeartbeats 1000000 in
theorem nodeBack_walk {S : Nat → Prop} [Has S 1] [Has S 2] (lf : Bool) (es : List Nd.Ent) (ks : List ByteArray) (ki : List Int) (a1 a2 a3 : Option Addr) (c1 c2 c3 : Nat) (lf2 : Bool) (v : Value) (l : List UInt8) (w : World) (A : Nat → Addr) (hs : SentsOn S w A) (h1 : RowAt eEnt w (.slice a1 es.length c1) es) (h2 : RowAt eStr w (.slice a2 ks.length c2) ks) (h3 : IntsAt w (.slice a3 ki.length c3) ki) (hb : BytesAt w v l) :
    Calls Tryd.prog 3 #[.agg #[.bool lf, .slice a1 es.length c1, .slice a2 ks.length c2, .slice a3 ki.length c3], .bool lf2, v] w fun e w' => e = .returned (.bool true) ∧ Below w.heap.size w w' := by
  obtain ⟨a, c, rfl, hlc, hcm, -⟩ := id hb
  unfold maxLen at hcm
  have HS := Lib.hid hs
  have HB := Lib.hid hb
  have H1 := Lib.hid h1
  have H2 := Lib.hid h2
  have H3 := Lib.hid h3
  clear hs hb h1 h2 h3
  go_enter Tryd.func3, Tryd.ntmps3
  go_upto_region 1 with fail
  refine wp_name fun W hW => ?_
  have HX0 := Lib.hid (show BoxAt W w.heap.size [.bool lf, .slice a1 es.length c1, .slice a2 ks.length c2, .slice a3 ki.length c3] by rw [hW]; exact (BoxAt.new w [_, _, _, _] _))
  have HB0 := Lib.hid (show Below w.heap.size w W by rw [hW]; go_grown)
  clear hW
  obtain ⟨m0, m1, m2, m3⟩ := HX0.out.four
  cases hl : lightB es.length ks.length ki.length with
  | false =>
    have HL := Lib.hid hl
    clear hl
    go_wp2_with (first
      | (go_at_call 14; (refine (light7_is lf _ _ _ false HL.out _ _ _ _ _ _ _).mono ?_); (rintro e w1 ⟨rfl, hb1⟩); (have HB1 := Lib.hid (below_step HB0.out hb1)); (clear hb1))
      | (go_at_call 15; (refine (awake7_any _ A (HS.out.below HB1.out)).mono ?_); (rintro e w3 ⟨rfl, hb3⟩); (have HB3 := Lib.hid (below_step HB1.out hb3)); (clear hb3)))
    go_ret
    exact ⟨rfl, HB3.out⟩
  | true =>
    have HL := Lib.hid hl
    obtain ⟨q1, q3, q2⟩ := light_yes hl
    clear hl
    by_cases hl3 : 3000 < l.length
    · have hli : (3000 : Int) < (l.length : Int) := by omega
      go_wp2_with (first
        | (go_at_call 14; (refine (light7_is lf _ _ _ true HL.out _ _ _ _ _ _ _).mono ?_); (rintro e w1 ⟨rfl, hb1⟩); (have HB1 := Lib.hid (below_step HB0.out hb1)); (clear hb1))
        | (go_at_call 15; (refine (awake7_any _ A (HS.out.below HB1.out)).mono ?_); (rintro e w3 ⟨rfl, hb3⟩); (have HB3 := Lib.hid (below_step HB1.out hb3)); (clear hb3)))
      go_ret
      exact ⟨rfl, HB3.out⟩
    have hli : (l.length : Int) ≤ 3000 := by omega
    have hl6 : l.length ≤ 1000000 := by omega
    have z1 : es.length ≤ 1000000 := by omega
    have z2 : ks.length ≤ 1000000 := by omega
    have z3 : ki.length ≤ 1000000 := by omega
    clear hl3
    go_upto_region 3 with (go_at_call 14; (refine (light7_is lf _ _ _ true HL.out _ _ _ _ _ _ _).mono ?_); (rintro e w1 ⟨rfl, hb1⟩); (have HB1 := Lib.hid (below_step HB0.out hb1)); (have HX1 := Lib.hid (HX0.out.below hb1)); (clear hb1 m0 m1 m2 m3); (obtain ⟨m0, m1, m2, m3⟩ := HX1.out.four))
    cases hn : nodeB lf es ks ki with
    | false =>
      have HN0 := Lib.hid hn
      clear hn
      go_upto_region 8 with (go_at_call 16; (refine (nodePut_bad lf es ks ki HN0.out _ _ _ _ _ _ _ A (HS.out.below HB1.out) (H1.out.below HB1.out) (H2.out.below HB1.out) (H3.out.below HB1.out) z1 z2 z3).mono ?_); (rintro e w2 ⟨⟨t2, x2, rfl, hE2⟩, hb2⟩); (have HBU := Lib.hid (below_step HB1.out hb2)); (clear hb2 hE2))
      clear m0 m1 m2 m3
      cases hfin : getOk lf2 l with
      | false =>
        have HFIN := Lib.hid hfin
        clear hfin
        go_wp2_with (first
          | (go_at_call 17; (refine (nodeGet_bad lf2 l HFIN.out _ _ _ A (HS.out.below HBU.out) (HB.out.below HBU.out) hl6).mono ?_); (rintro e w5 ⟨⟨b1, b2, b3, d1, d2, d3, t5, x5, lp5, rfl, hE5, hc1, hc2, hc3⟩, hb5⟩); (have HB5 := Lib.hid (below_step HBU.out hb5)); (have HB5a := Lib.hid (HB5.out.alloc HB5.out.size (.cells #[.bool false, .slice b1 0 d1, .slice b2 0 d2, .slice b3 0 d3] 26))); (clear hb5 hE5))
          | (go_at_call 15; (refine (awake7_any _ A (HS.out.below HB5a.out)).mono ?_); (rintro e w6 ⟨rfl, hb6⟩); (have HB6 := Lib.hid (below_step HB5a.out hb6)); (clear hb6)))
        go_ret
        exact ⟨rfl, HB6.out⟩
      | true =>
        have HFIN := Lib.hid hfin
        obtain ⟨hnr, hnl⟩ := getOk_right hfin
        obtain ⟨es', hes⟩ : ∃ es, getE lf2 l = es := ⟨_, rfl⟩
        obtain ⟨ks', hks⟩ : ∃ ks, getK lf2 l = ks := ⟨_, rfl⟩
        obtain ⟨ki', hki⟩ : ∃ ki, getI lf2 l = ki := ⟨_, rfl⟩
        rw [hes, hks, hki] at hnr hnl
        obtain ⟨y1, y2, y3⟩ := nodeB_len hnr
        have HES := Lib.hid hes
        have HKS := Lib.hid hks
        have HKI := Lib.hid hki
        have HNR := Lib.hid hnr
        have HNL := Lib.hid hnl
        have hll : (l == l) = true := by simp
        clear hfin hes hks hki hnr hnl
        go_upto_region 9 with (go_at_call 17; (refine (nodeGet_ok lf2 l HFIN.out es' ks' ki' HES.out HKS.out HKI.out _ _ _ A (HS.out.below HBU.out) (HB.out.below HBU.out) hl6).mono ?_); (rintro e w5 ⟨⟨b1, b2, b3, d1, d2, d3, rfl, r1, r2, r3⟩, hb5⟩); (have HB5 := Lib.hid (below_step HBU.out hb5)); (have R1 := Lib.hid (r1.at eEnt_ok)); (have R2 := Lib.hid (r2.at eStr_ok)); (have R3 := Lib.hid r3.ints); (clear hb5 r1 r2 r3))
        refine wp_name fun V hV => ?_
        obtain ⟨nb, hnb⟩ : ∃ nb, w5.heap.size = nb := ⟨_, rfl⟩
        have HN := Lib.hid (show BoxAt V nb [.bool lf2, .slice b1 es'.length d1, .slice b2 ks'.length d2, .slice b3 ki'.length d3] by rw [hV]; exact BoxAt.newAt _ _ hnb [_, _, _, _] _)
        have hal : Below w5.heap.size w5 V := by rw [hV]; exact (Below.refl _ _).alloc (Nat.le_refl _) _
        have HBV := Lib.hid (below_step HB5.out hal)
        have RV1 := Lib.hid (R1.out.below hal)
        have RV2 := Lib.hid (R2.out.below hal)
        have RV3 := Lib.hid (R3.out.below hal)
        rw [hnb]
        clear hV hnb hal
        obtain ⟨n0, n1, n2, n3⟩ := HN.out.four
        go_wp2_with (first
          | (go_at_call 16; (refine (nodePut_ok lf2 es' ks' ki' HNR.out l HNL.out _ _ _ _ _ _ _ A (HS.out.below HBV.out) RV1.out RV2.out RV3.out y1 y2 y3).mono ?_); (rintro e w6 ⟨⟨a8, c8, rfl, hy6⟩, hb6⟩); (have HY6 := Lib.hid hy6); (have HB6 := Lib.hid (below_step HBV.out hb6)); (clear hy6 hb6))
          | (go_at_call 19; (refine (sameB7_is _ _ l l true hll _ HY6.out (HB.out.below HB6.out)).mono ?_); (rintro e w7 ⟨rfl, hb7⟩); (have HB7 := Lib.hid (below_step HB6.out hb7)); (clear hb7))
          | (go_at_call 15; (refine (awake7_any _ A (HS.out.below HB7.out)).mono ?_); (rintro e w8 ⟨rfl, hb8⟩); (have HB8 := Lib.hid (below_step HB7.out hb8)); (clear hb8)))
        go_ret
        exact ⟨rfl, HB8.out⟩
    | true =>
      have HN0 := Lib.hid hn
      obtain ⟨L, hL⟩ : ∃ L, nodeL lf es ks ki = L := ⟨_, rfl⟩
      have hLn : L.length ≤ 1000000 := by rw [← hL]; exact nodeL_len hn q1 q2
      obtain ⟨g1, g2, g3, g4⟩ := getOk_of hn hL
      have HLL := Lib.hid hL
      have G1 := Lib.hid g1
      have G2 := Lib.hid g2
      have G3 := Lib.hid g3
      have G4 := Lib.hid g4
      have HSELF := Lib.hid (nodeEq_self lf es ks ki)
      clear hn hL g1 g2 g3 g4
      go_upto_region 5 with (go_at_call 16; (refine (nodePut_ok lf es ks ki HN0.out L HLL.out _ _ _ _ _ _ _ A (HS.out.below HB1.out) (H1.out.below HB1.out) (H2.out.below HB1.out) (H3.out.below HB1.out) z1 z2 z3).mono ?_); (rintro e w2 ⟨⟨a9, c9, rfl, hY2⟩, hb2⟩); (have HY2 := Lib.hid hY2); (have HB2 := Lib.hid (below_step HB1.out hb2)); (have HX2 := Lib.hid (HX1.out.below hb2)); (clear hb2 hY2 m0 m1 m2 m3); (obtain ⟨m0, m1, m2, m3⟩ := HX2.out.four))
      go_upto_region 6 with (go_at_call 17; (refine (nodeGet_ok lf L G1.out es ks ki G2.out G3.out G4.out _ _ _ A (HS.out.below HB2.out) HY2.out hLn).mono ?_); (rintro e w3 ⟨⟨b1, b2, b3, d1, d2, d3, rfl, r1, r2, r3⟩, hb3⟩); (have HB3 := Lib.hid (below_step HB2.out hb3)); (have HX3 := Lib.hid (HX2.out.below hb3)); (have R1 := Lib.hid (r1.at eEnt_ok)); (have R2 := Lib.hid (r2.at eStr_ok)); (have R3 := Lib.hid r3.ints); (clear hb3 r1 r2 r3))
      refine wp_name fun V hV => ?_
      obtain ⟨nb, hnb⟩ : ∃ nb, w3.heap.size = nb := ⟨_, rfl⟩
      have HN := Lib.hid (show BoxAt V nb [.bool lf, .slice b1 es.length d1, .slice b2 ks.length d2, .slice b3 ki.length d3] by rw [hV]; exact BoxAt.newAt _ _ hnb [_, _, _, _] _)
      have hal : Below w3.heap.size w3 V := by rw [hV]; exact (Below.refl _ _).alloc (Nat.le_refl _) _
      have HBV := Lib.hid (below_step HB3.out hal)
      have HXV := Lib.hid (HX3.out.below hal)
      have RV1 := Lib.hid (R1.out.below hal)
      have RV2 := Lib.hid (R2.out.below hal)
      have RV3 := Lib.hid (R3.out.below hal)
      rw [hnb]
      clear hV hnb hal m0 m1 m2 m3
      obtain ⟨m0, m1, m2, m3⟩ := HXV.out.four
      obtain ⟨n0, n1, n2, n3⟩ := HN.out.four
      go_upto_region 8 with (go_at_call 18; (refine (refSame7_is lf lf es es ks ks ki ki true HSELF.out b1 b2 b3 a1 a2 a3 d1 d2 d3 c1 c2 c3 _ RV1.out RV2.out RV3.out (H1.out.below HBV.out) (H2.out.below HBV.out) (H3.out.below HBV.out)).mono ?_); (rintro e w4 ⟨rfl, hb4⟩); (have HBU := Lib.hid (below_step HBV.out hb4)); (clear hb4))
      clear m0 m1 m2 m3 n0 n1 n2 n3 HN RV1 RV2 RV3 R1 R2 R3 HB3 HX3 HX2 HX1 HXV
      cases hfin : getOk lf2 l with
      | false =>
        have HFIN := Lib.hid hfin
        clear hfin
        go_wp2_with (first
          | (go_at_call 17; (refine (nodeGet_bad lf2 l HFIN.out _ _ _ A (HS.out.below HBU.out) (HB.out.below HBU.out) hl6).mono ?_); (rintro e w5 ⟨⟨b1, b2, b3, d1, d2, d3, t5, x5, lp5, rfl, hE5, hc1, hc2, hc3⟩, hb5⟩); (have HB5 := Lib.hid (below_step HBU.out hb5)); (have HB5a := Lib.hid (HB5.out.alloc HB5.out.size (.cells #[.bool false, .slice b1 0 d1, .slice b2 0 d2, .slice b3 0 d3] 26))); (clear hb5 hE5))
          | (go_at_call 15; (refine (awake7_any _ A (HS.out.below HB5a.out)).mono ?_); (rintro e w6 ⟨rfl, hb6⟩); (have HB6 := Lib.hid (below_step HB5a.out hb6)); (clear hb6)))
        go_ret
        exact ⟨rfl, HB6.out⟩
      | true =>
        have HFIN := Lib.hid hfin
        obtain ⟨hnr, hnl⟩ := getOk_right hfin
        obtain ⟨es', hes⟩ : ∃ es, getE lf2 l = es := ⟨_, rfl⟩
        obtain ⟨ks', hks⟩ : ∃ ks, getK lf2 l = ks := ⟨_, rfl⟩
        obtain ⟨ki', hki⟩ : ∃ ki, getI lf2 l = ki := ⟨_, rfl⟩
        rw [hes, hks, hki] at hnr hnl
        obtain ⟨y1, y2, y3⟩ := nodeB_len hnr
        have HES := Lib.hid hes
        have HKS := Lib.hid hks
        have HKI := Lib.hid hki
        have HNR := Lib.hid hnr
        have HNL := Lib.hid hnl
        have hll : (l == l) = true := by simp
        clear hfin hes hks hki hnr hnl
        go_upto_region 9 with (go_at_call 17; (refine (nodeGet_ok lf2 l HFIN.out es' ks' ki' HES.out HKS.out HKI.out _ _ _ A (HS.out.below HBU.out) (HB.out.below HBU.out) hl6).mono ?_); (rintro e w5 ⟨⟨b1, b2, b3, d1, d2, d3, rfl, r1, r2, r3⟩, hb5⟩); (have HB5 := Lib.hid (below_step HBU.out hb5)); (have R1 := Lib.hid (r1.at eEnt_ok)); (have R2 := Lib.hid (r2.at eStr_ok)); (have R3 := Lib.hid r3.ints); (clear hb5 r1 r2 r3))
        refine wp_name fun V hV => ?_
        obtain ⟨nb, hnb⟩ : ∃ nb, w5.heap.size = nb := ⟨_, rfl⟩
        have HN := Lib.hid (show BoxAt V nb [.bool lf2, .slice b1 es'.length d1, .slice b2 ks'.length d2, .slice b3 ki'.length d3] by rw [hV]; exact BoxAt.newAt _ _ hnb [_, _, _, _] _)
        have hal : Below w5.heap.size w5 V := by rw [hV]; exact (Below.refl _ _).alloc (Nat.le_refl _) _
        have HBV := Lib.hid (below_step HB5.out hal)
        have RV1 := Lib.hid (R1.out.below hal)
        have RV2 := Lib.hid (R2.out.below hal)
        have RV3 := Lib.hid (R3.out.below hal)
        rw [hnb]
        clear hV hnb hal
        obtain ⟨n0, n1, n2, n3⟩ := HN.out.four
        go_wp2_with (first
          | (go_at_call 16; (refine (nodePut_ok lf2 es' ks' ki' HNR.out l HNL.out _ _ _ _ _ _ _ A (HS.out.below HBV.out) RV1.out RV2.out RV3.out y1 y2 y3).mono ?_); (rintro e w6 ⟨⟨a8, c8, rfl, hy6⟩, hb6⟩); (have HY6 := Lib.hid hy6); (have HB6 := Lib.hid (below_step HBV.out hb6)); (clear hy6 hb6))
          | (go_at_call 19; (refine (sameB7_is _ _ l l true hll _ HY6.out (HB.out.below HB6.out)).mono ?_); (rintro e w7 ⟨rfl, hb7⟩); (have HB7 := Lib.hid (below_step HB6.out hb7)); (clear hb7))
          | (go_at_call 15; (refine (awake7_any _ A (HS.out.below HB7.out)).mono ?_); (rintro e w8 ⟨rfl, hb8⟩); (have HB8 := Lib.hid (below_step HB7.out hb8)); (clear hb8)))
        go_ret
        exact ⟨rfl, HB8.out⟩
end Go.Proofs.YtlobelfnjabajaaDoor
