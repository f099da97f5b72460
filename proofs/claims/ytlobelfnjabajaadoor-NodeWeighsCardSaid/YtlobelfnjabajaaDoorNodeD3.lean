/- nodes: the document's Get, of a leaf's bytes -/
import Derived.Test.YtlobelfnjabajaaDoorNodeM8
import Derived.Test.YtlobelfnjabajaaDoorNodeG1
import Derived.Test.YtlobelfnjabajaaDoorSame
namespace Go.Proofs.YtlobelfnjabajaaDoor
open Go.RowKit
set_option linter.unusedVariables false
set_option linter.unusedSimpArgs false
theorem sameB7_is (v1 v2 : Value) (l1 l2 : List UInt8) (t : Bool) (ht : (l1 == l2) = t) (w : World) (h1 : BytesAt w v1 l1) (h2 : BytesAt w v2 l2) :
    Calls Tryd.prog 19 #[v1, v2] w fun e w' => e = .returned (.bool t) ∧ Below w.heap.size w w' := by subst ht; exact same_any v1 v2 l1 l2 w h1 h2
theorem refOne_is2 (a : Option Addr) (c : Nat) (l : List UInt8) (s s' : Rd) (E : Nd.Ent) (hE : oneR l s = (E, s')) (P P' : Int) (hP : posD s = P) (hP' : posD s' = P') (w : World) (hb : BytesAt w (.slice a l.length c) l) (hp : s.pos ≤ 70000000) (hl : l.length ≤ 90000000) :
    Calls Tryd.prog 76 #[.slice a l.length c, .int .i64 P] w fun e w' => (∃ X : Nd.Ent, e = .returned (.tuple #[.agg #[.string X.key, .string X.value, .int .i64 X.chain, .int .i64 X.size], .int .i64 P']) ∧ (s'.bad = false → X = E)) ∧ Below w.heap.size w w' := refOne_is a c l s s' E hE P P' hP hP' w hb hp hl
/-- a node in new memory, and whether there is one -/
def GivesRef7 (w : World) (lf : Bool) (es : List Nd.Ent) (ks : List ByteArray) (ki : List Int) (ok : Bool) (e : Ending) (w' : World) : Prop :=
  ∃ a1 a2 a3 c1 c2 c3, e = .returned (.tuple #[.agg #[.bool lf, .slice a1 es.length c1, .slice a2 ks.length c2, .slice a3 ki.length c3], .bool ok]) ∧ OwnR eEnt w' w.heap.size (.slice a1 es.length c1) es ∧ OwnR eStr w' w.heap.size (.slice a2 ks.length c2) ks ∧ OwnI w' w.heap.size (.slice a3 ki.length c3) ki
def GetRL (w : World) (es : List Nd.Ent) (a1 : Option Addr) (c1 : Nat) (wr : World) : Prop :=
  BoxAt wr w.heap.size [.bool false, .slice none 0 0, .slice none 0 0, .slice none 0 0] ∧
  BoxAt wr (w.heap.size + 1) [.bool true, .slice a1 es.length c1, .slice none 0 0, .slice none 0 0] ∧
  OwnR eEnt wr (w.heap.size + 2) (.slice a1 es.length c1) es ∧ Below w.heap.size w wr
theorem GetRL.below {w : World} {es : List Nd.Ent} {a1 : Option Addr} {c1 : Nat} {wr wr' : World} (h : GetRL w es a1 c1 wr) (hb : Below wr.heap.size wr wr') : GetRL w es a1 c1 wr' := by
  obtain ⟨h1, h3, h4, h5⟩ := h
  exact ⟨h1.below hb, h3.below hb, h4.below hb (Nat.le_refl _), h5.trans (hb.mono h5.size)⟩
theorem GetRL.size {w : World} {es : List Nd.Ent} {a1 : Option Addr} {c1 : Nat} {wr : World} (h : GetRL w es a1 c1 wr) : w.heap.size + 2 ≤ wr.heap.size := h.2.1.lt
theorem numR_many {l : List UInt8} {many m0 : Nat} {s0 : Rd} (h : (if s0.bad = true then 0 else many) = m0) : m0 ≤ many ∧ (s0.bad = false → m0 = many) := by
  subst h
  cases s0.bad <;> simp
set_option maxRecDepth 100000 in
set_option maxHeartbeats 4000000 in
theorem refGet_leafAt (l : List UInt8) (fin : Bool) (hfin : leafOk l = fin) (a : Option Addr) (c : Nat) (w : World) (hb : BytesAt w (.slice a l.length c) l) (hl : l.length ≤ 1000000) :
    Calls Tryd.prog 37 #[.bool true, .slice a l.length c] w fun e w' => (if fin = true then GivesRef7 w true (leafG l).1 [] [] true e w' else GivesRef7 w false [] [] [] false e w') ∧ Below w.heap.size w w' := by
  have HB := Lib.hid hb
  have HFIN := Lib.hid hfin
  obtain ⟨many, s0, hm⟩ : ∃ n s, numR l 2 rd0 = (n, s) := ⟨_, _, rfl⟩
  obtain ⟨m0, hm0⟩ : ∃ m, (if s0.bad = true then 0 else many) = m := ⟨_, rfl⟩
  have hm6 : many < 65536 := by have := numR_lt l 2 rd0; rw [hm] at this; exact this
  have hp0 : s0.pos = 2 := by have := numR_pos l 2 rd0; rw [hm] at this; exact this
  have hge0 : s0.bad = false → s0.pos ≤ l.length := fun h => by
    have := numR_good (l := l) (x := 2) (s := rd0) (by rw [hm]; exact h)
    rw [hp0]; simpa [rd0] using this.2.1
  have hG : leafG l = leafR l s0 many := by unfold leafG manyR; rw [hm]
  have hmm := (numR_many (l := l) hm0).1
  have HMG := Lib.hid (numR_many (l := l) hm0).2
  have HM := Lib.hid hm
  have HM0 := Lib.hid hm0
  have HG := Lib.hid hG
  have HGE := Lib.hid hge0
  obtain ⟨P0, hP0⟩ : ∃ P, posD s0 = P := ⟨_, rfl⟩
  have HP0 := Lib.hid hP0
  clear hb hfin hm hm0 hG hge0 hP0
  go_enter Tryd.func37, Tryd.ntmps37
  go_upto_region 2 with fail
  refine wp_name fun W hW => ?_
  have HR := Lib.hid (show BoxAt W w.heap.size [.bool false, .slice none 0 0, .slice none 0 0, .slice none 0 0] by rw [hW]; exact (BoxAt.new w [_, _, _, _] _).alloc _)
  have HN := Lib.hid (show BoxAt W (w.heap.size + 1) [.bool true, .slice none 0 0, .slice none 0 0, .slice none 0 0] by rw [hW]; exact BoxAt.newAt _ _ (by simp) [_, _, _, _] _)
  have HB0 := Lib.hid (show Below w.heap.size w W by rw [hW]; go_grown)
  clear hW
  have HL0 := Lib.hid (show GetRL w [] none 0 W from ⟨HR.out, HN.out, OwnR.nil _ _ _, HB0.out⟩)
  go_upto_region 4 with (go_at_call 75; (refine (refTake_is _ l 2 rd0 s0 many m0 HM.out HM0.out 0 P0 _ rfl HP0.out rfl _ (HB.out.below HB0.out) (by decide) (by decide) (by decide)).mono ?_); (rintro e w1 ⟨rfl, rfl⟩))
  go_wp2_with fail
  go_loopw [8, 9] (fun atv i wr => ∃ k es es' s P a1 c1, k ≤ m0 ∧ i = .int .i64 (k : Nat) ∧ atv = .int .i64 P ∧ posD s = P ∧ leafR l s0 k = (es, s) ∧ (s.bad = false → es' = es ∧ s.pos ≤ l.length) ∧ es'.length ≤ k ∧ GetRL w es' a1 c1 wr) (fun _ i _ => m0 - (intOf i).toNat)
  case atStart => exact ⟨0, [], [], s0, P0, none, 0, by omega, rfl, rfl, HP0.out, rfl, fun h => ⟨rfl, HGE.out h⟩, by simp, HL0.out⟩
  case round =>
    obtain ⟨k, es, es', s, P, a1, c1, hk, rfl, rfl, hP, hls, hsp, hek, hgl⟩ := hrel
    have hel : es'.length ≤ 1000000 := by omega
    have HLS := Lib.hid hls
    have HGL := Lib.hid hgl
    have HPP := Lib.hid hP
    obtain ⟨n0, n1, n2, n3⟩ := hgl.2.1.four
    clear hls hgl
    cases hbd : s.bad with
    | true =>
      have hf : fin = false := by rw [← HFIN.out]; unfold leafOk; rw [HG.out, leafR_bad HLS.out hbd (Nat.le_trans hk hmm)]; simp [hbd]
      have hPe : P = -1 := by rw [← hP, posD_bad hbd]
      subst hf hPe
      have hz := zero_box HGL.out.1 (.bool false) (.slice none 0 0) (.slice none 0 0) (.slice none 0 0)
      have HZ := Lib.hid hz
      obtain ⟨z0, z1, z2, z3⟩ := HGL.out.1.four
      have f0 := HGL.out.1.free 0 _ rfl
      have f1 := HGL.out.1.free 1 _ rfl
      have f2 := HGL.out.1.free 2 _ rfl
      have f3 := HGL.out.1.free 3 _ rfl
      clear hP hz HPP
      rcases Nat.lt_or_ge k m0 with hlt | hge
      · have hlt1 : (k : Int) < (m0 : Int) := by omega
        go_wp2_with fail
        obtain ⟨k0, k1, k2, k3⟩ := HZ.out.four
        refine bodyPost_ret (v := .tuple #[.agg #[.bool false, .slice none 0 0, .slice none 0 0, .slice none 0 0], .bool false]) (by simp [results, Tryd.results37, go_sem, k0, k1, k2, k3]) rfl ?_
        refine ⟨?_, (((HGL.out.2.2.2.setCell (Nat.le_refl _) _).setCell (Nat.le_refl _) _).setCell (Nat.le_refl _) _).setCell (Nat.le_refl _) _⟩
        try rw [if_neg (by decide)]
        exact ⟨none, none, none, 0, 0, 0, rfl, OwnR.nil _ _ _, OwnR.nil _ _ _, OwnI.nil _ _⟩
      · have hge1 : (m0 : Int) ≤ (k : Int) := by omega
        go_wp2_with fail
        obtain ⟨k0, k1, k2, k3⟩ := HZ.out.four
        refine bodyPost_ret (v := .tuple #[.agg #[.bool false, .slice none 0 0, .slice none 0 0, .slice none 0 0], .bool false]) (by simp [results, Tryd.results37, go_sem, k0, k1, k2, k3]) rfl ?_
        refine ⟨?_, (((HGL.out.2.2.2.setCell (Nat.le_refl _) _).setCell (Nat.le_refl _) _).setCell (Nat.le_refl _) _).setCell (Nat.le_refl _) _⟩
        try rw [if_neg (by decide)]
        exact ⟨none, none, none, 0, 0, 0, rfl, OwnR.nil _ _ _, OwnR.nil _ _ _, OwnI.nil _ _⟩
    | false =>
      obtain ⟨hes, hsl⟩ := hsp hbd
      subst hes
      have hPe : P = (s.pos : Int) := by rw [← hP, posD_good hbd]
      subst hPe
      clear hP hsp
      by_cases hlt : k < m0
      · have hlt1 : (k : Int) < (m0 : Int) := by omega
        have hpi : (0 : Int) ≤ (s.pos : Int) := by omega
        obtain ⟨E, s', h1R⟩ : ∃ E s', oneR l s = (E, s') := ⟨_, _, rfl⟩
        obtain ⟨P', hP'⟩ : ∃ P, posD s' = P := ⟨_, rfl⟩
        have HST := Lib.hid (leafR_at HLS.out hbd h1R)
        have HSP := Lib.hid (show s'.bad = false → s'.pos ≤ l.length from fun h => by have := oneR_end (l := l) (s := s); rw [h1R] at this; exact this h)
        have H1R := Lib.hid h1R
        have HP' := Lib.hid hP'
        clear h1R hP'
        go_upto_region 8 with (go_at_call 76; (refine (refOne_is2 a c l s s' E H1R.out _ P' HPP.out HP'.out _ (HB.out.below HGL.out.2.2.2) (by omega) (by omega)).mono ?_); (rintro e w1 ⟨⟨X, rfl, hX⟩, hb1⟩); (have HX1 := Lib.hid hX); (have HLa := Lib.hid (HGL.out.below hb1)); (clear hX hb1))
        refine wp_name fun V hV => ?_
        obtain ⟨eb, heb⟩ : ∃ eb, w1.heap.size = eb := ⟨_, rfl⟩
        have HE := Lib.hid (show BoxAt V eb [.string X.key, .string X.value, .int .i64 X.chain, .int .i64 X.size] by rw [hV]; exact BoxAt.newAt _ _ heb [_, _, _, _] _)
        have HLV0 := Lib.hid (show GetRL w es' a1 c1 V by rw [hV]; exact HLa.out.below ((Below.refl _ _).alloc (Nat.le_refl _) _))
        rw [heb]
        clear hV heb n0 n1 n2 n3
        obtain ⟨n0, n1, n2, n3⟩ := HLV0.out.2.1.four
        obtain ⟨e0, e1, e2, e3⟩ := HE.out.four
        go_wp2_with (at_builtin; (refine wpList_append_row eEnt eEnt_ok rfl (.tmp 41) (.tmp 43) rfl (w.heap.size + 2) _ es' rfl (HLV0.out.2.2.1.alloc _) (.slice (some ⟨V.heap.size, 0, none⟩) 1 1) [X] rfl (RowAt.one (E := eEnt) V X #[.string X.key, .string X.value, .int .i64 X.chain, .int .i64 X.size] 44 rfl V.heap.size rfl) (by simp; omega) (by simp; omega) (by have := HLV0.out.size; simp; omega) ?_))
        intro v2 w2 hown hgrow _
        obtain ⟨a2, c2, hv2, -, -⟩ := hown.slice
        subst hv2
        have HLV := Lib.hid (HLV0.out.below ((Below.refl _ _).alloc (Nat.le_refl _) (.cells #[.string X.key, .string X.value, .int .i64 X.chain, .int .i64 X.size] 44)))
        have hob : ∀ k, (Value.slice a1 es'.length c1).ownBlock = some k → w.heap.size + 2 ≤ k := fun k hk => (HLV.out.2.2.1.lt k hk).1
        have h1 := HLV.out.1.grownR hgrow (fun e => by have := hob _ e; omega)
        have h3 := HLV.out.2.1.grownR hgrow (fun e => by have := hob _ e; omega)
        have h5 := HLV.out.2.2.2.trans (grown_below hgrow (fun k hk => by have := hob _ hk; omega) HLV.out.2.2.2.size)
        have n1 := h3.at 1 _ rfl
        have f1 := h3.free 1 _ rfl
        have H1 := Lib.hid h1
        have H3 := Lib.hid h3
        have H5 := Lib.hid h5
        have HO := Lib.hid hown
        clear h1 h3 h5 hown hgrow n0 n2 n3 e0 e1 e2 e3 hob
        go_wp2_with fail
        go_roundw
        case rel => exact ⟨k + 1, es' ++ [E], es' ++ [X], s', P', a2, c2, by omega, by go_num, rfl, HP'.out, HST.out, fun h => ⟨by rw [HX1.out h], HSP.out h⟩, by simp; omega, H1.out.set (by omega) _ _, by simpa [List.set] using H3.out.put 1 (.slice a2 (es' ++ [X]).length c2), HO.out.keep (grownBy_set (World.grownBy.refl _ (some (w.heap.size + 1))) 1 _) (by omega), H5.out.setCell (by simp) _⟩
        case measure => simp [intOf]; omega
      · have hkk : k = m0 := by omega
        have hge1 : (m0 : Int) ≤ (k : Int) := by omega
        have hpi : (0 : Int) ≤ (s.pos : Int) := by omega
        have hs0 : s0.bad = false := by
          cases h0 : s0.bad with
          | false => rfl
          | true =>
            have h2 := leafR_stays (l := l) (s := s0) (k := 0) h0 k (Nat.zero_le _)
            rw [HLS.out] at h2
            have := congrArg (fun x => x.2.bad) h2
            simp only [leafR, h0, hbd] at this
            cases this
        have hkm : k = many := by rw [hkk]; exact HMG.out hs0
        have HLG := Lib.hid (show leafG l = (es', s) by rw [HG.out, ← hkm]; exact HLS.out)
        have hlk : leafOk l = (nodeB true es' [] [] && (nodeL true es' [] [] == l)) := by unfold leafOk; rw [HLG.out]; simp [hbd]
        have HRR : ∀ (B : Bool), nodeB true es' [] [] = B → ∀ wq, Below wr.heap.size wr wq → Calls Tryd.prog 24 #[.agg #[.bool true, .slice a1 es'.length c1, .slice none 0 0, .slice none 0 0]] wq fun e w' => e = .returned (.bool B) ∧ Below wq.heap.size wq w' := fun B hB wq hq => refRight_is true es' [] [] B hB a1 none none c1 0 0 wq ((HGL.out.2.2.1.below hq (Nat.le_refl _)).at eEnt_ok) (RowAt.nil _ _) (IntsAt.nil _) hel (by simp) (by simp)
        have HRX := Lib.hid HRR
        clear HRR hs0 hkm
        cases hn : nodeB true es' [] [] with
        | false =>
          have HNB := Lib.hid hn
          have hf : fin = false := by rw [← HFIN.out, hlk, hn]; rfl
          subst hf
          clear hlk hn
          go_wp2_with (go_at_call 24; (refine (HRX.out false HNB.out _ (Below.refl _ _)).mono ?_); (rintro e w2 ⟨rfl, hb2⟩); (have HL2 := Lib.hid (HGL.out.below hb2)); (obtain ⟨z0, z1, z2, z3⟩ := HL2.out.1.four); (have f0 := HL2.out.1.free 0 _ rfl); (have f1 := HL2.out.1.free 1 _ rfl); (have f2 := HL2.out.1.free 2 _ rfl); (have f3 := HL2.out.1.free 3 _ rfl); (clear hb2))
          have hz := zero_box HL2.out.1 (.bool false) (.slice none 0 0) (.slice none 0 0) (.slice none 0 0)
          obtain ⟨k0, k1, k2, k3⟩ := hz.four
          refine bodyPost_ret (v := .tuple #[.agg #[.bool false, .slice none 0 0, .slice none 0 0, .slice none 0 0], .bool false]) (by simp [results, Tryd.results37, go_sem, k0, k1, k2, k3]) rfl ?_
          refine ⟨?_, (((HL2.out.2.2.2.setCell (Nat.le_refl _) _).setCell (Nat.le_refl _) _).setCell (Nat.le_refl _) _).setCell (Nat.le_refl _) _⟩
          try rw [if_neg (by decide)]
          exact ⟨none, none, none, 0, 0, 0, rfl, OwnR.nil _ _ _, OwnR.nil _ _ _, OwnI.nil _ _⟩
        | true =>
          have HNB := Lib.hid hn
          obtain ⟨L, hL⟩ : ∃ L, nodeL true es' [] [] = L := ⟨_, rfl⟩
          have HLL := Lib.hid hL
          have HFE := Lib.hid (show (L == l) = fin by rw [← HFIN.out, hlk, hn, hL]; rfl)
          clear hlk hn hL
          have HBY : ∀ wq, Below wr.heap.size wr wq → Calls Tryd.prog 27 #[.agg #[.bool true, .slice a1 es'.length c1, .slice none 0 0, .slice none 0 0]] wq fun e w' => (∃ a c, e = .returned (.slice a L.length c) ∧ Own w' wq.heap.size (.slice a L.length c) L) ∧ Below wq.heap.size wq w' := fun wq hq => refBytes_is true es' [] [] HNB.out L HLL.out a1 none none c1 0 0 wq ((HGL.out.2.2.1.below hq (Nat.le_refl _)).at eEnt_ok) (RowAt.nil _ _) (IntsAt.nil _)
          have HBX := Lib.hid HBY
          clear HBY
          cases fin with
          | false =>
            go_wp2_with (first
              | (go_at_call 19; (refine (sameB7_is _ _ L l _ HFE.out _ HY3.out (HB.out.below HL3.out.2.2.2)).mono ?_); (rintro e w4 ⟨rfl, hb4⟩); (have HL4 := Lib.hid (HL3.out.below hb4)); (clear z0 z1 z2 z3 f0 f1 f2 f3); (obtain ⟨z0, z1, z2, z3⟩ := HL4.out.1.four); (have f0 := HL4.out.1.free 0 _ rfl); (have f1 := HL4.out.1.free 1 _ rfl); (have f2 := HL4.out.1.free 2 _ rfl); (have f3 := HL4.out.1.free 3 _ rfl); (clear hb4))
              | (go_at_call 27; (refine (HBX.out _ HQ2.out).mono ?_); (rintro e w3 ⟨⟨ay, cy, rfl, ho3⟩, hb3⟩); (have HL3 := Lib.hid (HL2.out.below hb3)); (have HY3 := Lib.hid ho3.bytes); (clear n0 n1 n2 n3); (obtain ⟨n0, n1, n2, n3⟩ := HL3.out.2.1.four); (obtain ⟨z0, z1, z2, z3⟩ := HL3.out.1.four); (have f0 := HL3.out.1.free 0 _ rfl); (have f1 := HL3.out.1.free 1 _ rfl); (have f2 := HL3.out.1.free 2 _ rfl); (have f3 := HL3.out.1.free 3 _ rfl); (clear hb3 ho3))
              | (go_at_call 24; (refine (HRX.out true HNB.out _ (Below.refl _ _)).mono ?_); (rintro e w2 ⟨rfl, hb2⟩); (have HL2 := Lib.hid (HGL.out.below hb2)); (have HQ2 := Lib.hid hb2); (clear n0 n1 n2 n3); (obtain ⟨n0, n1, n2, n3⟩ := HL2.out.2.1.four); (clear hb2)))
            have hz := zero_box HL4.out.1 (.bool false) (.slice none 0 0) (.slice none 0 0) (.slice none 0 0)
            obtain ⟨k0, k1, k2, k3⟩ := hz.four
            refine bodyPost_ret (v := .tuple #[.agg #[.bool false, .slice none 0 0, .slice none 0 0, .slice none 0 0], .bool false]) (by simp [results, Tryd.results37, go_sem, k0, k1, k2, k3]) rfl ?_
            refine ⟨?_, (((HL4.out.2.2.2.setCell (Nat.le_refl _) _).setCell (Nat.le_refl _) _).setCell (Nat.le_refl _) _).setCell (Nat.le_refl _) _⟩
            try rw [if_neg (by decide)]
            exact ⟨none, none, none, 0, 0, 0, rfl, OwnR.nil _ _ _, OwnR.nil _ _ _, OwnI.nil _ _⟩
          | true =>
            go_wp2_with (first
              | (go_at_call 19; (refine (sameB7_is _ _ L l _ HFE.out _ HY3.out (HB.out.below HL3.out.2.2.2)).mono ?_); (rintro e w4 ⟨rfl, hb4⟩); (have HL4 := Lib.hid (HL3.out.below hb4)); (clear z0 z1 z2 z3 f0 f1 f2 f3 n0 n1 n2 n3); (obtain ⟨n0, n1, n2, n3⟩ := HL4.out.2.1.four); (obtain ⟨z0, z1, z2, z3⟩ := HL4.out.1.four); (have f0 := HL4.out.1.free 0 _ rfl); (have f1 := HL4.out.1.free 1 _ rfl); (have f2 := HL4.out.1.free 2 _ rfl); (have f3 := HL4.out.1.free 3 _ rfl); (clear hb4))
              | (go_at_call 27; (refine (HBX.out _ HQ2.out).mono ?_); (rintro e w3 ⟨⟨ay, cy, rfl, ho3⟩, hb3⟩); (have HL3 := Lib.hid (HL2.out.below hb3)); (have HY3 := Lib.hid ho3.bytes); (clear n0 n1 n2 n3); (obtain ⟨n0, n1, n2, n3⟩ := HL3.out.2.1.four); (obtain ⟨z0, z1, z2, z3⟩ := HL3.out.1.four); (have f0 := HL3.out.1.free 0 _ rfl); (have f1 := HL3.out.1.free 1 _ rfl); (have f2 := HL3.out.1.free 2 _ rfl); (have f3 := HL3.out.1.free 3 _ rfl); (clear hb3 ho3))
              | (go_at_call 24; (refine (HRX.out true HNB.out _ (Below.refl _ _)).mono ?_); (rintro e w2 ⟨rfl, hb2⟩); (have HL2 := Lib.hid (HGL.out.below hb2)); (have HQ2 := Lib.hid hb2); (clear n0 n1 n2 n3); (obtain ⟨n0, n1, n2, n3⟩ := HL2.out.2.1.four); (clear hb2)))
            have hz := zero_box HL4.out.1 (.bool true) (.slice a1 es'.length c1) (.slice none 0 0) (.slice none 0 0)
            obtain ⟨k0, k1, k2, k3⟩ := hz.four
            refine bodyPost_ret (v := .tuple #[.agg #[.bool true, .slice a1 es'.length c1, .slice none 0 0, .slice none 0 0], .bool true]) (by simp [results, Tryd.results37, go_sem, k0, k1, k2, k3]) rfl ?_
            refine ⟨?_, (((HL4.out.2.2.2.setCell (Nat.le_refl _) _).setCell (Nat.le_refl _) _).setCell (Nat.le_refl _) _).setCell (Nat.le_refl _) _⟩
            try rw [if_pos rfl]
            rw [HLG.out]
            have hq := HL4.out.2.2.1
            exact ⟨a1, none, none, c1, 0, 0, rfl, ((((hq.keep (grownBy_set (World.grownBy.refl _ (some w.heap.size)) 0 _) (by omega)).keep (grownBy_set (World.grownBy.refl _ (some w.heap.size)) 1 _) (by omega)).keep (grownBy_set (World.grownBy.refl _ (some w.heap.size)) 2 _) (by omega)).keep (grownBy_set (World.grownBy.refl _ (some w.heap.size)) 3 _) (by omega)).mono (by omega), OwnR.nil _ _ _, OwnI.nil _ _⟩
end Go.Proofs.YtlobelfnjabajaaDoor
