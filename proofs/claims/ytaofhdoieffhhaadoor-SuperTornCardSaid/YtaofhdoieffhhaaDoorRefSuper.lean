/- superblocks: the document's put, take, Seal -/
import Derived.Test.YtaofhdoieffhhaaDoorSuper
import Derived.Test.YtaofhdoieffhhaaDoorRefOpenAt
import Derived.Test.YtaofhdoieffhhaaDoorMixPure
namespace Go.Proofs.YtaofhdoieffhhaaDoor
open Go.RowKit
set_option linter.unusedVariables false
set_option linter.unusedSimpArgs false

theorem refPut06_is (v : Value) (l m : List UInt8) (n : Nat) (w : World) (hm : l ++ Fld.le 4 n = m) (hb : BytesAt w v l) (hn : n < 4294967296) (hlen : l.length ≤ 1000) :
    Calls Tryd.prog 54 #[v, .int .i64 (n : Int)] w fun e w' => (∃ a c, e = .returned (.slice a m.length c) ∧ Own w' w.heap.size (.slice a m.length c) m) ∧ Below w.heap.size w w' := by
  have hp := refPut_ok v l n 4 w hb (by decide) hn (by omega) (by omega)
  rw [hm] at hp
  have HP := Lib.hid hp
  clear hb hp hm
  go_enter Tryd.func54, Tryd.ntmps54
  go_wp2_with (go_at_call 55; (refine HP.out.mono ?_); (rintro e w2 ⟨hg, hb2⟩); (obtain ⟨a, c, rfl, ho⟩ := hg.seen))
  go_ret
  exact ⟨⟨a, c, rfl, ho⟩, hb2⟩
theorem refTake06_is (v : Value) (l : List UInt8) (A : Int) (w : World) (hb : BytesAt w v l) (hA : 0 ≤ A) (hat : A + 4 ≤ l.length) :
    Calls Tryd.prog 60 #[v, .int .i64 A] w fun e w' => e = .returned (.int .i64 (numI l A 4)) ∧ w = w' := by
  have HB := Lib.hid hb
  have hn : 0 ≤ numI l A 4 ∧ numI l A 4 < 4294967296 := by have := Pg.num_lt l A.toNat 4; unfold numI; simp; omega
  clear hb
  go_enter Tryd.func60, Tryd.ntmps60
  go_wp2_with (go_at_call 58; refine (refTake_num _ l A 4 _ HB.out (by decide) hA hat).mono ?_; rintro e w1 ⟨rfl, rfl⟩)
  go_ret
  exact ⟨rfl, rfl⟩

theorem refSeal_page (at_ : Int) (gen : Nat) (B : List UInt8) (a : Option Addr) (c : Nat) (size : Nat) (L : List UInt8) (hL : Pg.sealL ⟨1, at_, gen, B⟩ size = L) (w : World) (hb : BytesAt w (.slice a B.length c) B) (h : Pg.checkC ⟨1, at_, gen, B⟩ size = 0) (hg : gen < 18446744073709551616) :
    Calls Tryd.prog 23 #[.agg #[.int .i64 1, .int .i64 at_, .int .u64 (gen : Int), .slice a B.length c], .int .i64 (size : Int)] w fun e w' => (∃ a2 c2, e = .returned (.slice a2 L.length c2) ∧ Own w' w.heap.size (.slice a2 L.length c2) L) ∧ Below w.heap.size w w' := by
  subst hL
  exact refSeal_ok ⟨1, at_, gen, B⟩ a c size w hb h hg
set_option maxRecDepth 100000 in
set_option maxHeartbeats 4000000 in
theorem refSupSeal_ok (s : Su.Sup) (at_ : Int) (L : List UInt8) (hL : Su.supSeal s at_ = L) (w : World) (hr : Su.right s = true) (hat : at_ = 0 ∨ at_ = 1) (hg : s.gen < 18446744073709551616) :
    Calls Tryd.prog 27 #[.agg #[.int .u64 (s.gen : Int), .int .i64 s.blocks, .int .i64 s.size, .int .i64 s.root, .int .i64 s.keys], .int .i64 at_] w fun e w' => (∃ a c, e = .returned (.slice a L.length c) ∧ Own w' w.heap.size (.slice a L.length c) L) ∧ Below w.heap.size w w' := by
  have HL := Lib.hid hL
  have HCK := Lib.hid (Su.check_page (at_ := at_) hr (by omega))
  have hri := Su.right_iff.1 hr
  clear hr hL hat
  obtain ⟨gen, blocks, size, root, keys⟩ := s
  simp only at hri hg
  obtain ⟨bn, rfl⟩ : ∃ n : Nat, blocks = n := ⟨blocks.toNat, by omega⟩
  obtain ⟨sn, rfl⟩ : ∃ n : Nat, size = n := ⟨size.toNat, by omega⟩
  obtain ⟨rn, rfl⟩ : ∃ n : Nat, root = n := ⟨root.toNat, by omega⟩
  obtain ⟨kn, rfl⟩ : ∃ n : Nat, keys = n := ⟨keys.toNat, by omega⟩
  have b1 : bn ≤ 256 := by omega
  have b2 : sn ≤ 1024 := by omega
  have b3 : rn ≤ 256 := by omega
  have b4 : kn ≤ 2147483647 := by omega
  clear hri
  go_enter Tryd.func27, Tryd.ntmps27
  go_wp2_with fail
  refine wp_name fun W hW => ?_
  have hX : BoxAt W w.heap.size [.int .u64 (gen : Int), .int .i64 (bn : Int), .int .i64 (sn : Int), .int .i64 (rn : Int), .int .i64 (kn : Int)] := by rw [hW]; exact BoxAt.new w [_, _, _, _, _] _
  have hWb : Below w.heap.size w W := by rw [hW]; go_grown
  have hlW := hX.lt
  have n1 := Near.cell (w := W.drew) (row := none) (hX.at 1 _ rfl) (by simp)
  have n2 := Near.cell (w := W.drew) (row := none) (hX.at 2 _ rfl) (by simp)
  have n3 := Near.cell (w := W.drew) (row := none) (hX.at 3 _ rfl) (by simp)
  have n4 := Near.cell (w := W.drew) (row := none) (hX.at 4 _ rfl) (by simp)
  clear hW
  go_cut [5] (fun s5 wx => ∃ a c, s5 = .slice a (Fld.le 4 bn ++ Fld.le 4 sn ++ Fld.le 4 rn ++ Fld.le 4 kn).length c ∧ Own wx W.heap.size (.slice a (Fld.le 4 bn ++ Fld.le 4 sn ++ Fld.le 4 rn ++ Fld.le 4 kn).length c) (Fld.le 4 bn ++ Fld.le 4 sn ++ Fld.le 4 rn ++ Fld.le 4 kn) ∧ W.grownBy wx none)
  case first =>
    refine wp_region_mix (fun w' => ∃ x : Near W.drew none, w' = x.world) [] 16 (by kernel_rfl) rfl ?_
    refine mix_reads_lit [1, 2, 3, 5, 6, 7, 9, 10, 12, 13] 6 (by kernel_rfl) (by kernel_rfl) (by kernel_rfl) (by kernel_rfl) rfl (NearC.of (World.grownBy.refl _ _)) ?_
    simp only [pick, List.filterMap_cons, List.filterMap_nil, List.getElem?_cons_succ, List.getElem?_cons_zero]
    repeat (first | go_big_quiet_step (fail) | quiet_step (fail))
    refine wpQuiet_nil ?_
    have gW : W.grownBy W.drew none := grown_of_below (Below.refl _ _).drew (Nat.le_refl _) none
    have hDs : Hid (W.drew.heap.size = W.heap.size) := Lib.hid rfl
    generalize W.drew = D at *
    refine mix_deed_lit 0 5 (by kernel_rfl) (by kernel_rfl) rfl (fun K hK => ?_)
    simp only [comesUp, List.getElem?_cons_succ, List.getElem?_cons_zero]
    refine if_mk rfl ?_
    go_simp
    obtain ⟨g, D1, eg, en, hgg, kg, lg, mg⟩ := alloc_facts D (.cells #[] 5)
    rw [en, eg]
    clear en eg
    have e1 := own_empty (S := D.heap.size) hgg lg
    have gb1 := kg
    refine hK _ _ (fun _ _ => NearC.of gb1) ?_
    clear hK K hgg
    obtain ⟨q1, hq1⟩ : ∃ m, ([] : List UInt8) ++ Fld.le 4 bn = m := ⟨_, rfl⟩
    obtain ⟨q2, hq2⟩ : ∃ m, q1 ++ Fld.le 4 sn = m := ⟨_, rfl⟩
    obtain ⟨q3, hq3⟩ : ∃ m, q2 ++ Fld.le 4 rn = m := ⟨_, rfl⟩
    obtain ⟨q4, hq4⟩ : ∃ m, q3 ++ Fld.le 4 kn = m := ⟨_, rfl⟩
    have HL1 := Lib.hid (show q1.length = 4 by rw [← hq1]; simp [Fld.le_length])
    have HL2 := Lib.hid (show q2.length = 8 by rw [← hq2]; simp [Fld.le_length, HL1.out])
    have HL3 := Lib.hid (show q3.length = 12 by rw [← hq3]; simp [Fld.le_length, HL2.out])
    have HQ := Lib.hid (show q4 = Fld.le 4 bn ++ Fld.le 4 sn ++ Fld.le 4 rn ++ Fld.le 4 kn by rw [← hq4, ← hq3, ← hq2, ← hq1]; rfl)
    have H1 := Lib.hid hq1
    have H2 := Lib.hid hq2
    have H3 := Lib.hid hq3
    have H4 := Lib.hid hq4
    clear hq1 hq2 hq3 hq4
    refine mix_deed_lit 4 4 (by kernel_rfl) (by kernel_rfl) rfl (fun K hK => ?_)
    simp only [comesUp, List.getElem?_cons_succ, List.getElem?_cons_zero]
    refine if_mk rfl ?_
    go_simp
    refine (refPut06_is _ [] q1 bn _ H1.out e1.bytes (by omega) (by simp)).mono ?_
    rintro e w1 ⟨⟨a1, c1, rfl, ho1⟩, hb1⟩
    have gb2 := grown_trans gb1 (grown_of_below hb1 (Nat.le_refl _) none)
    refine hK _ _ (fun _ _ => NearC.of gb2) ?_
    clear hK K
    refine mix_deed_lit 8 3 (by kernel_rfl) (by kernel_rfl) rfl (fun K hK => ?_)
    simp only [comesUp, List.getElem?_cons_succ, List.getElem?_cons_zero]
    refine if_mk rfl ?_
    go_simp
    refine (refPut06_is _ q1 q2 sn _ H2.out ho1.bytes (by omega) (by have := HL1.out; omega)).mono ?_
    rintro e w2 ⟨⟨a2, c2, rfl, ho2⟩, hb2⟩
    have gb3 := grown_trans gb2 (grown_of_below hb2 (Nat.le_refl _) none)
    refine hK _ _ (fun _ _ => NearC.of gb3) ?_
    clear hK K
    refine mix_deed_lit 11 2 (by kernel_rfl) (by kernel_rfl) rfl (fun K hK => ?_)
    simp only [comesUp, List.getElem?_cons_succ, List.getElem?_cons_zero]
    refine if_mk rfl ?_
    go_simp
    refine (refPut06_is _ q2 q3 rn _ H3.out ho2.bytes (by omega) (by have := HL2.out; omega)).mono ?_
    rintro e w3 ⟨⟨a3, c3, rfl, ho3⟩, hb3⟩
    have gb4 := grown_trans gb3 (grown_of_below hb3 (Nat.le_refl _) none)
    refine hK _ _ (fun _ _ => NearC.of gb4) ?_
    clear hK K
    refine mix_deed_lit 14 1 (by kernel_rfl) (by kernel_rfl) rfl (fun K hK => ?_)
    simp only [comesUp, List.getElem?_cons_succ, List.getElem?_cons_zero]
    refine if_mk rfl ?_
    go_simp
    refine (refPut06_is _ q3 q4 kn _ H4.out ho3.bytes (by omega) (by have := HL3.out; omega)).mono ?_
    rintro e w4 ⟨⟨a4, c4, rfl, ho4⟩, hb4⟩
    have gb5 := grown_trans gb4 (grown_of_below hb4 (Nat.le_refl _) none)
    refine hK _ _ (fun _ _ => NearC.of gb5) ?_
    clear hK K
    refine mix_flat_lit [15] 0 (by kernel_rfl) (by kernel_rfl) (by kernel_rfl) (by kernel_rfl) rfl ?_
    simp only [pick, List.filterMap_cons, List.filterMap_nil, List.getElem?_cons_succ, List.getElem?_cons_zero]
    repeat (first | go_big_quiet_step (fail) | quiet_step (fail))
    refine wpQuiet_nil ?_
    refine mix_done_lit (by kernel_rfl) ?_
    have hfin : Own w4 W.heap.size (.slice a4 q4.length c4) q4 := ho4.mono (by rw [← hDs.out]; exact Nat.le_trans (Nat.le_trans (grown_size gb1) hb1.size) (Nat.le_trans hb2.size hb3.size))
    have gfin := grown_trans gW gb5
    have HF := Lib.hid hfin
    have HGF := Lib.hid gfin
    clear ho1 ho2 ho3 ho4 hb1 hb2 hb3 hb4 gb1 gb2 gb3 gb4 gb5 e1 kg hfin gfin n1 n2 n3 n4 gW
    go_wp2_with fail
    go_meet
    rw [← HQ.out]
    exact ⟨a4, c4, rfl, HF.out, HGF.out⟩
  case rest =>
    obtain ⟨a5, c5, rfl, ho5, hg5⟩ := hcut
    have hX5 := hX.grownR hg5 (by simp)
    obtain ⟨m0, m1, m2, m3, m4⟩ := hX5.five
    have HX5 := Lib.hid hX5
    have HPRE := Lib.hid (show (Fld.le 4 bn ++ Fld.le 4 sn ++ Fld.le 4 rn ++ Fld.le 4 kn) ++ Fld.le 8 gen = Su.bodyL ⟨gen, bn, sn, rn, kn⟩ by simp [Su.bodyL])
    generalize hPL : Fld.le 4 bn ++ Fld.le 4 sn ++ Fld.le 4 rn ++ Fld.le 4 kn = PL at *
    have hpl : PL.length = 16 := by rw [← hPL]; simp [Fld.le_length]
    have HPLL := Lib.hid hpl
    have HO5 := Lib.hid ho5.bytes
    have HBW := Lib.hid (hWb.trans (grown_below hg5 (by simp) (Nat.le_of_lt hlW)))
    have HWS := Lib.hid hWb.size
    clear hPL hpl ho5 n1 n2 n3 n4 hX hX5 hg5 hWb
    go_upto_region 3 with (go_at_call 55; (refine (refPut_ok _ PL gen 8 _ HO5.out (by decide) hg hg (by have := HPLL.out; omega)).mono ?_); (rintro e w2 ⟨hgv, hb2⟩); (obtain ⟨a2, c2, rfl, ho2⟩ := hgv.seen); (rw [HPRE.out] at ho2 ⊢); (have HO2 := Lib.hid ho2.bytes); (have HB2 := Lib.hid (below_step HBW.out hb2)); (obtain ⟨x0, x1, x2, x3, x4⟩ := (HX5.out.below hb2).five); (clear ho2 hb2 hgv))
    generalize hBL : Su.bodyL ⟨gen, bn, sn, rn, kn⟩ = BL at *
    have HP := Lib.hid (show Su.pageOf ⟨gen, bn, sn, rn, kn⟩ at_ = ⟨1, at_, gen, BL⟩ by unfold Su.pageOf; rw [hBL])
    clear hBL
    go_wp2_with (go_at_call 23; (refine (refSeal_page at_ gen BL a2 c2 sn L (by rw [← HL.out, Su.supSeal, HP.out]; rfl) _ HO2.out (by have := HCK.out; rw [HP.out] at this; exact this) hg).mono ?_); (rintro e w3 ⟨⟨a3, c3, rfl, ho3⟩, hb3⟩); (have HO3 := Lib.hid (ho3.mono HB2.out.size)); (have HB3 := Lib.hid (below_step HB2.out hb3)); (clear ho3 hb3))
    go_ret
    exact ⟨⟨_, _, rfl, HO3.out⟩, HB3.out⟩
end Go.Proofs.YtaofhdoieffhhaaDoor
