/- superblocks: the walk of SuperSeals -/
import Derived.Test.YtaofhdoieffhhaaDoorSuperRuns
namespace Go.Proofs.YtaofhdoieffhhaaDoor
open Go.RowKit
set_option linter.unusedVariables false
set_option linter.unusedSimpArgs false

theorem place_is (n : Nat) (h : n < 18446744073709551616) (w : World) : Calls Tryd.prog 33 #[.int .u64 (n : Int)] w fun e w' => e = .returned (.int .i64 ((n : Int) % 2)) ∧ w = w' := by
  have := superPlace_any n h w
  rwa [show ((n % 2 : Nat) : Int) = (n : Int) % 2 by omega] at this
/-- what super.Seal tells -/
def SealTold2 (w : World) (A : Nat → Addr) (L : List UInt8) (k : Nat) (e : Ending) (w' : World) : Prop :=
  ∃ a c ev lp, e = .returned (.tuple #[.slice a L.length c, ev]) ∧ Own w' w.heap.size (.slice a L.length c) L ∧ ErrIs w' A w.heap.size lp k ev
theorem superSeal_told (s : Su.Sup) (at_ : Int) (L : List UInt8) (k : Nat) (hk : supSealC s at_ = k) (hL : L = if k = 0 then Su.supSeal s at_ else []) (w : World) (A : Nat → Addr) {S : Nat → Prop} [Has S 1] [Has S 2] [Has S 5] (hs : SentsOn S w A) (hg : s.gen < 18446744073709551616) :
    Calls Tryd.prog 28 #[.agg #[.int .u64 (s.gen : Int), .int .i64 s.blocks, .int .i64 s.size, .int .i64 s.root, .int .i64 s.keys], .int .i64 at_] w fun e w' => SealTold2 w A L k e w' ∧ Below w.heap.size w w' := by
  by_cases h : supSealC s at_ = 0
  · have hr : Su.right s = true := by
      cases hr : Su.right s with
      | true => rfl
      | false => unfold supSealC at h; rw [hr] at h; simp at h
    have hat : at_ = 0 ∨ at_ = 1 := by
      unfold supSealC at h
      rw [if_pos hr] at h
      by_cases h2 : at_ = 0 ∨ at_ = 1
      · exact h2
      · rw [if_neg h2] at h; cases h
    rw [if_pos (hk.symm.trans h)] at hL
    subst hL
    refine (superSeal_ok s at_ _ rfl w A hs hr hat hg).mono fun e w' ⟨⟨a, c, he, ho⟩, hb⟩ => ⟨⟨a, c, _, [], he, ho, ?_⟩, hb⟩
    rw [← hk, h]
    exact ErrIs.nil _ _ _
  · rw [if_neg (fun e => h (hk.trans e))] at hL
    subst hL
    refine (superSeal_bad s at_ w A hs h).mono fun e w' ⟨⟨t, x, l, he, hE⟩, hb⟩ => ⟨⟨none, 0, _, l, he, Own.nil _ _, ?_⟩, hb⟩
    rw [← hk]
    exact hE
theorem superCheck_is (s : Su.Sup) (K : Nat) (hK : supC s = K) (w : World) (A : Nat → Addr) {S : Nat → Prop} [Has S 1] (hs : SentsOn S w A) :
    Calls Tryd.prog 32 #[.agg #[.int .u64 (s.gen : Int), .int .i64 s.blocks, .int .i64 s.size, .int .i64 s.root, .int .i64 s.keys]] w fun e w' => (∃ v l, e = .returned v ∧ ErrIs w' A w.heap.size l K v) ∧ Below w.heap.size w w' := by
  subst hK; exact superCheck_any s w A hs

set_option maxRecDepth 100000 in
set_option maxHeartbeats 4000000 in
theorem superSeals_walk (s : Su.Sup) (at_ : Int) (w : World) (A : Nat → Addr) (hs : Sents w A) (hg : s.gen < 18446744073709551616) :
    Calls Tryd.prog 8 #[.agg #[.int .u64 (s.gen : Int), .int .i64 s.blocks, .int .i64 s.size, .int .i64 s.root, .int .i64 s.keys], .int .i64 at_] w fun e w' => e = .returned (.bool true) ∧ Below w.heap.size w w' := by
  have HS := Lib.hid hs
  clear hs
  obtain ⟨k, hk⟩ : ∃ k, supSealC s at_ = k := ⟨_, rfl⟩
  obtain ⟨L, hL⟩ : ∃ L, L = if k = 0 then Su.supSeal s at_ else [] := ⟨_, rfl⟩
  have hcase : (Su.right s = false ∧ k = 1 ∧ L = [] ∧ supC s = 1) ∨ (Su.right s = true ∧ (at_ != 0) = true ∧ (at_ != 1) = true ∧ k = 2 ∧ L = [] ∧ supC s = 0) ∨ (Su.right s = true ∧ at_ = 0 ∧ k = 0 ∧ L = Su.supSeal s 0 ∧ supC s = 0) ∨ (Su.right s = true ∧ at_ = 1 ∧ k = 0 ∧ L = Su.supSeal s 1 ∧ supC s = 0) := by
    subst hL hk
    unfold supSealC supC
    cases hr : Su.right s with
    | false => exact .inl ⟨rfl, by simp, by simp, by simp⟩
    | true =>
      by_cases h0 : at_ = 0
      · subst h0; exact .inr (.inr (.inl ⟨rfl, rfl, by simp, by simp, by simp⟩))
      · by_cases h1 : at_ = 1
        · subst h1; exact .inr (.inr (.inr ⟨rfl, rfl, by simp, by simp, by simp⟩))
        · exact .inr (.inl ⟨rfl, by simpa using h0, by simpa using h1, by simp [h0, h1], by simp [h0, h1], by simp⟩)
  have HK := Lib.hid hk
  have HL := Lib.hid hL
  have HTM := Lib.hid (show ((s.gen : Int) % 2 != IntKind.i64.wrap ((s.gen : Int).tmod 2)) = false by
    rw [Int.tmod_eq_emod_of_nonneg (by omega), show IntKind.i64.wrap ((s.gen : Int) % 2) = (s.gen : Int) % 2 from IntWalk.i64_in _ (by omega)]
    simp)
  clear hk hL
  rcases hcase with ⟨hr, rfl, rfl, hck⟩ | ⟨hr, h0, h1, rfl, rfl, hck⟩ | ⟨hr, rfl, rfl, hL2, hck⟩ | ⟨hr, rfl, rfl, hL2, hck⟩
  · have HR := Lib.hid hr
    have HCK := Lib.hid hck
    clear hr hck
    go_enter Tryd.func8, Tryd.ntmps8
    go_upto_region 5 with (first
      | (go_at_call 28; (refine (superSeal_told s at_ _ 1 HK.out HL.out _ A (HS.out.below (by go_grown)) hg).mono ?_); (rintro e w1 ⟨⟨a1, c1, ev, lp, rfl, ho1, hE1⟩, hb1⟩); (have HX1 := Lib.hid ((BoxAt.new w [.int .u64 (s.gen : Int), .int .i64 s.blocks, .int .i64 s.size, .int .i64 s.root, .int .i64 s.keys] 48).below hb1)); (obtain ⟨m0, m1, m2, m3, m4⟩ := HX1.out.five); (have HO1 := Lib.hid ho1.bytes); (have HE1 := Lib.hid hE1); (have HB1 := Lib.hid ((show Below w.heap.size w _ by go_grown).trans (hb1.mono (by simp)))); (clear ho1 hE1 hb1))
      | (go_at_call 25; (refine (refSupRight_is s false HR.out _).mono ?_); (rintro e w2 ⟨rfl, hb2⟩); (have HX2 := Lib.hid (HX1.out.below hb2)); (have HO2 := Lib.hid (HO1.out.below hb2)); (have HE2 := Lib.hid (HE1.out.below' hb2)); (have HB2 := Lib.hid (below_step HB1.out hb2)); (clear hb2)))
    clear m0 m1 m2 m3 m4
    go_cut [31] (fun c wx => c = .bool false ∧ w2.grownBy wx none)
    case first =>
      have gW : w2.grownBy w2.drew none := grown_of_below (Below.refl _ _).drew (Nat.le_refl _) none
      have n0 := Near.cell (w := w2.drew) (row := none) (HX2.out.at 0 _ rfl) (by simp)
      have n1 := Near.cell (w := w2.drew) (row := none) (HX2.out.at 1 _ rfl) (by simp)
      have n2 := Near.cell (w := w2.drew) (row := none) (HX2.out.at 2 _ rfl) (by simp)
      have n3 := Near.cell (w := w2.drew) (row := none) (HX2.out.at 3 _ rfl) (by simp)
      have n4 := Near.cell (w := w2.drew) (row := none) (HX2.out.at 4 _ rfl) (by simp)
      have HSD := Lib.hid (show Sents w2.drew A from HS.out.below HB2.out.drew)
      refine wp_region_mix (fun w' => ∃ x : Near w2.drew none, w' = x.world) [] 15 (by kernel_rfl) rfl ?_
      generalize w2.drew = D at *
      refine mix_reads_lit [0, 2] 13 (by kernel_rfl) (by kernel_rfl) (by kernel_rfl) (by kernel_rfl) rfl (NearC.of (World.grownBy.refl _ _)) ?_
      simp only [pick, List.filterMap_cons, List.filterMap_nil, List.getElem?_cons_succ, List.getElem?_cons_zero]
      repeat (first | go_big_quiet_step (fail) | quiet_step (fail))
      refine wpQuiet_nil ?_
      refine mix_deed_lit 1 12 (by kernel_rfl) (by kernel_rfl) rfl (fun K hK => ?_)
      simp only [comesUp, List.getElem?_cons_succ, List.getElem?_cons_zero]
      refine if_mk rfl ?_
      go_simp
      refine (superCheck_is s 1 HCK.out _ A HSD.out).mono ?_
      rintro e w3 ⟨⟨v3, l3, rfl, hE3⟩, hb3⟩
      have gb3 : D.grownBy w3 none := grown_of_below hb3 (Nat.le_refl _) none
      refine hK _ _ (fun _ _ => NearC.of gb3) ?_
      clear hK K
      refine mix_deed_lit 3 11 (by kernel_rfl) (by kernel_rfl) rfl (fun K hK => ?_)
      simp only [comesUp, List.getElem?_cons_succ, List.getElem?_cons_zero]
      refine if_mk rfl ?_
      go_simp
      refine (tells06_any (HSD.out.below hb3) l3 1 _ hE3 _ rfl).mono ?_
      rintro e w4 ⟨rfl, rfl⟩
      refine hK _ _ (fun _ _ => NearC.of gb3) ?_
      clear hK K
      refine mix_reads_lit [4, 5, 6, 7, 9, 10, 11, 12] 3 (by kernel_rfl) (by kernel_rfl) (by kernel_rfl) (by kernel_rfl) rfl (NearC.of gb3) ?_
      simp only [pick, List.filterMap_cons, List.filterMap_nil, List.getElem?_cons_succ, List.getElem?_cons_zero]
      repeat (first | go_big_quiet_step (fail) | quiet_step (fail))
      refine wpQuiet_nil ?_
      refine mix_deed_lit 8 2 (by kernel_rfl) (by kernel_rfl) rfl (fun K hK => ?_)
      simp only [comesUp, List.getElem?_cons_succ, List.getElem?_cons_zero]
      refine if_mk rfl ?_
      go_simp
      refine (place_is s.gen hg _).mono ?_
      rintro e w5 ⟨rfl, rfl⟩
      refine hK _ _ (fun _ _ => NearC.of gb3) ?_
      clear hK K
      refine mix_reads_lit [13, 14] 0 (by kernel_rfl) (by kernel_rfl) (by kernel_rfl) (by kernel_rfl) rfl (NearC.of gb3) ?_
      simp only [pick, List.filterMap_cons, List.filterMap_nil, List.getElem?_cons_succ, List.getElem?_cons_zero]
      repeat (first | go_big_quiet_step (fail) | quiet_step (fail))
      refine wpQuiet_nil ?_
      refine mix_done_lit (by kernel_rfl) ?_
      have HGG := Lib.hid (grown_trans gW gb3)
      clear n0 n1 n2 n3 n4 hE3 hb3 gb3 gW
      go_wp2_with fail
      go_meet
      exact ⟨by rw [HTM.out], HGG.out⟩
    case rest =>
      obtain ⟨rfl, hgr⟩ := hcut
      have HX3 := Lib.hid (HX2.out.grownR hgr (by simp))
      have HO3 := Lib.hid (bytes_grown HO2.out hgr)
      have hbb := grown_below hgr (by simp) (Nat.le_refl _)
      have HE3 := Lib.hid (HE2.out.below' hbb)
      have HB3 := Lib.hid (below_step HB2.out hbb)
      obtain ⟨m0, m1, m2, m3, m4⟩ := HX3.out.five
      clear hgr hbb
      go_wp2_with (first
        | (go_at_call 31; (refine (tells06_any (HS.out.below HB3.out) lp 1 _ HE3.out _ rfl).mono ?_); (rintro e w9 ⟨rfl, rfl⟩))
        | (go_at_call 26; (refine (superAwake_any _ A (HS.out.below HB3.out)).mono ?_); (rintro e w8 ⟨rfl, hb8⟩); (have HB8 := Lib.hid (below_step HB3.out hb8)); (clear hb8)))
      go_ret
      exact ⟨rfl, HB8.out⟩
  · have HR := Lib.hid hr
    have HCK := Lib.hid hck
    clear hr hck
    go_enter Tryd.func8, Tryd.ntmps8
    go_upto_region 5 with (first
      | (go_at_call 28; (refine (superSeal_told s at_ _ 2 HK.out HL.out _ A (HS.out.below (by go_grown)) hg).mono ?_); (rintro e w1 ⟨⟨a1, c1, ev, lp, rfl, ho1, hE1⟩, hb1⟩); (have HX1 := Lib.hid ((BoxAt.new w [.int .u64 (s.gen : Int), .int .i64 s.blocks, .int .i64 s.size, .int .i64 s.root, .int .i64 s.keys] 48).below hb1)); (obtain ⟨m0, m1, m2, m3, m4⟩ := HX1.out.five); (have HO1 := Lib.hid ho1.bytes); (have HE1 := Lib.hid hE1); (have HB1 := Lib.hid ((show Below w.heap.size w _ by go_grown).trans (hb1.mono (by simp)))); (clear ho1 hE1 hb1))
      | (go_at_call 25; (refine (refSupRight_is s true HR.out _).mono ?_); (rintro e w2 ⟨rfl, hb2⟩); (have HX2 := Lib.hid (HX1.out.below hb2)); (have HO2 := Lib.hid (HO1.out.below hb2)); (have HE2 := Lib.hid (HE1.out.below' hb2)); (have HB2 := Lib.hid (below_step HB1.out hb2)); (clear hb2)))
    clear m0 m1 m2 m3 m4
    go_cut [31] (fun c wx => c = .bool false ∧ w2.grownBy wx none)
    case first =>
      have gW : w2.grownBy w2.drew none := grown_of_below (Below.refl _ _).drew (Nat.le_refl _) none
      have n0 := Near.cell (w := w2.drew) (row := none) (HX2.out.at 0 _ rfl) (by simp)
      have n1 := Near.cell (w := w2.drew) (row := none) (HX2.out.at 1 _ rfl) (by simp)
      have n2 := Near.cell (w := w2.drew) (row := none) (HX2.out.at 2 _ rfl) (by simp)
      have n3 := Near.cell (w := w2.drew) (row := none) (HX2.out.at 3 _ rfl) (by simp)
      have n4 := Near.cell (w := w2.drew) (row := none) (HX2.out.at 4 _ rfl) (by simp)
      have HSD := Lib.hid (show Sents w2.drew A from HS.out.below HB2.out.drew)
      refine wp_region_mix (fun w' => ∃ x : Near w2.drew none, w' = x.world) [] 15 (by kernel_rfl) rfl ?_
      generalize w2.drew = D at *
      refine mix_reads_lit [0, 2] 13 (by kernel_rfl) (by kernel_rfl) (by kernel_rfl) (by kernel_rfl) rfl (NearC.of (World.grownBy.refl _ _)) ?_
      simp only [pick, List.filterMap_cons, List.filterMap_nil, List.getElem?_cons_succ, List.getElem?_cons_zero]
      repeat (first | go_big_quiet_step (fail) | quiet_step (fail))
      refine wpQuiet_nil ?_
      refine mix_deed_lit 1 12 (by kernel_rfl) (by kernel_rfl) rfl (fun K hK => ?_)
      simp only [comesUp, List.getElem?_cons_succ, List.getElem?_cons_zero]
      refine if_mk rfl ?_
      go_simp
      refine (superCheck_is s 0 HCK.out _ A HSD.out).mono ?_
      rintro e w3 ⟨⟨v3, l3, rfl, hE3⟩, hb3⟩
      have gb3 : D.grownBy w3 none := grown_of_below hb3 (Nat.le_refl _) none
      refine hK _ _ (fun _ _ => NearC.of gb3) ?_
      clear hK K
      refine mix_deed_lit 3 11 (by kernel_rfl) (by kernel_rfl) rfl (fun K hK => ?_)
      simp only [comesUp, List.getElem?_cons_succ, List.getElem?_cons_zero]
      refine if_mk rfl ?_
      go_simp
      refine (tells06_any (HSD.out.below hb3) l3 0 _ hE3 _ rfl).mono ?_
      rintro e w4 ⟨rfl, rfl⟩
      refine hK _ _ (fun _ _ => NearC.of gb3) ?_
      clear hK K
      refine mix_reads_lit [4, 5, 6, 7, 9, 10, 11, 12] 3 (by kernel_rfl) (by kernel_rfl) (by kernel_rfl) (by kernel_rfl) rfl (NearC.of gb3) ?_
      simp only [pick, List.filterMap_cons, List.filterMap_nil, List.getElem?_cons_succ, List.getElem?_cons_zero]
      repeat (first | go_big_quiet_step (fail) | quiet_step (fail))
      refine wpQuiet_nil ?_
      refine mix_deed_lit 8 2 (by kernel_rfl) (by kernel_rfl) rfl (fun K hK => ?_)
      simp only [comesUp, List.getElem?_cons_succ, List.getElem?_cons_zero]
      refine if_mk rfl ?_
      go_simp
      refine (place_is s.gen hg _).mono ?_
      rintro e w5 ⟨rfl, rfl⟩
      refine hK _ _ (fun _ _ => NearC.of gb3) ?_
      clear hK K
      refine mix_reads_lit [13, 14] 0 (by kernel_rfl) (by kernel_rfl) (by kernel_rfl) (by kernel_rfl) rfl (NearC.of gb3) ?_
      simp only [pick, List.filterMap_cons, List.filterMap_nil, List.getElem?_cons_succ, List.getElem?_cons_zero]
      repeat (first | go_big_quiet_step (fail) | quiet_step (fail))
      refine wpQuiet_nil ?_
      refine mix_done_lit (by kernel_rfl) ?_
      have HGG := Lib.hid (grown_trans gW gb3)
      clear n0 n1 n2 n3 n4 hE3 hb3 gb3 gW
      go_wp2_with fail
      go_meet
      exact ⟨by rw [HTM.out], HGG.out⟩
    case rest =>
      obtain ⟨rfl, hgr⟩ := hcut
      have HX3 := Lib.hid (HX2.out.grownR hgr (by simp))
      have HO3 := Lib.hid (bytes_grown HO2.out hgr)
      have hbb := grown_below hgr (by simp) (Nat.le_refl _)
      have HE3 := Lib.hid (HE2.out.below' hbb)
      have HB3 := Lib.hid (below_step HB2.out hbb)
      obtain ⟨m0, m1, m2, m3, m4⟩ := HX3.out.five
      clear hgr hbb
      go_wp2_with (first
        | (go_at_call 31; (refine (tells06_any (HS.out.below HB3.out) lp 2 _ HE3.out _ rfl).mono ?_); (rintro e w9 ⟨rfl, rfl⟩))
        | (go_at_call 26; (refine (superAwake_any _ A (HS.out.below HB3.out)).mono ?_); (rintro e w8 ⟨rfl, hb8⟩); (have HB8 := Lib.hid (below_step HB3.out hb8)); (clear hb8)))
      go_ret
      exact ⟨rfl, HB8.out⟩
  · have HR := Lib.hid hr
    have HCK := Lib.hid hck
    clear hr hck
    have hLL := Lib.hid hL2
    clear hL2
    go_enter Tryd.func8, Tryd.ntmps8
    go_upto_region 5 with (first
      | (go_at_call 28; (refine (superSeal_told s 0 _ 0 HK.out HL.out _ A (HS.out.below (by go_grown)) hg).mono ?_); (rintro e w1 ⟨⟨a1, c1, ev, lp, rfl, ho1, hE1⟩, hb1⟩); (have HX1 := Lib.hid ((BoxAt.new w [.int .u64 (s.gen : Int), .int .i64 s.blocks, .int .i64 s.size, .int .i64 s.root, .int .i64 s.keys] 48).below hb1)); (obtain ⟨m0, m1, m2, m3, m4⟩ := HX1.out.five); (have HO1 := Lib.hid ho1.bytes); (have HE1 := Lib.hid hE1); (have HB1 := Lib.hid ((show Below w.heap.size w _ by go_grown).trans (hb1.mono (by simp)))); (clear ho1 hE1 hb1))
      | (go_at_call 25; (refine (refSupRight_is s true HR.out _).mono ?_); (rintro e w2 ⟨rfl, hb2⟩); (have HX2 := Lib.hid (HX1.out.below hb2)); (have HO2 := Lib.hid (HO1.out.below hb2)); (have HE2 := Lib.hid (HE1.out.below' hb2)); (have HB2 := Lib.hid (below_step HB1.out hb2)); (clear hb2)))
    clear m0 m1 m2 m3 m4
    go_cut [31] (fun c wx => c = .bool false ∧ w2.grownBy wx none)
    case first =>
      have gW : w2.grownBy w2.drew none := grown_of_below (Below.refl _ _).drew (Nat.le_refl _) none
      have n0 := Near.cell (w := w2.drew) (row := none) (HX2.out.at 0 _ rfl) (by simp)
      have n1 := Near.cell (w := w2.drew) (row := none) (HX2.out.at 1 _ rfl) (by simp)
      have n2 := Near.cell (w := w2.drew) (row := none) (HX2.out.at 2 _ rfl) (by simp)
      have n3 := Near.cell (w := w2.drew) (row := none) (HX2.out.at 3 _ rfl) (by simp)
      have n4 := Near.cell (w := w2.drew) (row := none) (HX2.out.at 4 _ rfl) (by simp)
      have HSD := Lib.hid (show Sents w2.drew A from HS.out.below HB2.out.drew)
      refine wp_region_mix (fun w' => ∃ x : Near w2.drew none, w' = x.world) [] 15 (by kernel_rfl) rfl ?_
      generalize w2.drew = D at *
      refine mix_reads_lit [0, 2] 13 (by kernel_rfl) (by kernel_rfl) (by kernel_rfl) (by kernel_rfl) rfl (NearC.of (World.grownBy.refl _ _)) ?_
      simp only [pick, List.filterMap_cons, List.filterMap_nil, List.getElem?_cons_succ, List.getElem?_cons_zero]
      repeat (first | go_big_quiet_step (fail) | quiet_step (fail))
      refine wpQuiet_nil ?_
      refine mix_deed_lit 1 12 (by kernel_rfl) (by kernel_rfl) rfl (fun K hK => ?_)
      simp only [comesUp, List.getElem?_cons_succ, List.getElem?_cons_zero]
      refine if_mk rfl ?_
      go_simp
      refine (superCheck_is s 0 HCK.out _ A HSD.out).mono ?_
      rintro e w3 ⟨⟨v3, l3, rfl, hE3⟩, hb3⟩
      have gb3 : D.grownBy w3 none := grown_of_below hb3 (Nat.le_refl _) none
      refine hK _ _ (fun _ _ => NearC.of gb3) ?_
      clear hK K
      refine mix_deed_lit 3 11 (by kernel_rfl) (by kernel_rfl) rfl (fun K hK => ?_)
      simp only [comesUp, List.getElem?_cons_succ, List.getElem?_cons_zero]
      refine if_mk rfl ?_
      go_simp
      refine (tells06_any (HSD.out.below hb3) l3 0 _ hE3 _ rfl).mono ?_
      rintro e w4 ⟨rfl, rfl⟩
      refine hK _ _ (fun _ _ => NearC.of gb3) ?_
      clear hK K
      refine mix_reads_lit [4, 5, 6, 7, 9, 10, 11, 12] 3 (by kernel_rfl) (by kernel_rfl) (by kernel_rfl) (by kernel_rfl) rfl (NearC.of gb3) ?_
      simp only [pick, List.filterMap_cons, List.filterMap_nil, List.getElem?_cons_succ, List.getElem?_cons_zero]
      repeat (first | go_big_quiet_step (fail) | quiet_step (fail))
      refine wpQuiet_nil ?_
      refine mix_deed_lit 8 2 (by kernel_rfl) (by kernel_rfl) rfl (fun K hK => ?_)
      simp only [comesUp, List.getElem?_cons_succ, List.getElem?_cons_zero]
      refine if_mk rfl ?_
      go_simp
      refine (place_is s.gen hg _).mono ?_
      rintro e w5 ⟨rfl, rfl⟩
      refine hK _ _ (fun _ _ => NearC.of gb3) ?_
      clear hK K
      refine mix_reads_lit [13, 14] 0 (by kernel_rfl) (by kernel_rfl) (by kernel_rfl) (by kernel_rfl) rfl (NearC.of gb3) ?_
      simp only [pick, List.filterMap_cons, List.filterMap_nil, List.getElem?_cons_succ, List.getElem?_cons_zero]
      repeat (first | go_big_quiet_step (fail) | quiet_step (fail))
      refine wpQuiet_nil ?_
      refine mix_done_lit (by kernel_rfl) ?_
      have HGG := Lib.hid (grown_trans gW gb3)
      clear n0 n1 n2 n3 n4 hE3 hb3 gb3 gW
      go_wp2_with fail
      go_meet
      exact ⟨by rw [HTM.out], HGG.out⟩
    case rest =>
      obtain ⟨rfl, hgr⟩ := hcut
      have HX3 := Lib.hid (HX2.out.grownR hgr (by simp))
      have HO3 := Lib.hid (bytes_grown HO2.out hgr)
      have hbb := grown_below hgr (by simp) (Nat.le_refl _)
      have HE3 := Lib.hid (HE2.out.below' hbb)
      have HB3 := Lib.hid (below_step HB2.out hbb)
      obtain ⟨m0, m1, m2, m3, m4⟩ := HX3.out.five
      clear hgr hbb
      obtain ⟨rfl, -⟩ := HE3.out.isNil
      have hll : (L == L) = true := by simp
      go_wp2_with (first
        | (go_at_call 27; (refine (refSupSeal_ok s 0 L hLL.out.symm _ HR.out (by decide) hg).mono ?_); (rintro e w5 ⟨⟨a5, c5, rfl, ho5⟩, hb5⟩); (have HO5 := Lib.hid ho5.bytes); (have HO35 := Lib.hid (HO3.out.below hb5)); (have HB5 := Lib.hid (below_step HB3.out hb5)); (clear ho5 hb5))
        | (go_at_call 17; (refine (same_any _ _ L L _ HO35.out HO5.out).mono ?_); (rintro e w7 ⟨rfl, hb7⟩); (have HB7 := Lib.hid (below_step HB5.out hb7)); (clear hb7))
        | (go_at_call 26; (refine (superAwake_any _ A (HS.out.below HB7.out)).mono ?_); (rintro e w8 ⟨rfl, hb8⟩); (have HB8 := Lib.hid (below_step HB7.out hb8)); (clear hb8)))
      go_ret
      exact ⟨rfl, HB8.out⟩
  · have HR := Lib.hid hr
    have HCK := Lib.hid hck
    clear hr hck
    have hLL := Lib.hid hL2
    clear hL2
    go_enter Tryd.func8, Tryd.ntmps8
    go_upto_region 5 with (first
      | (go_at_call 28; (refine (superSeal_told s 1 _ 0 HK.out HL.out _ A (HS.out.below (by go_grown)) hg).mono ?_); (rintro e w1 ⟨⟨a1, c1, ev, lp, rfl, ho1, hE1⟩, hb1⟩); (have HX1 := Lib.hid ((BoxAt.new w [.int .u64 (s.gen : Int), .int .i64 s.blocks, .int .i64 s.size, .int .i64 s.root, .int .i64 s.keys] 48).below hb1)); (obtain ⟨m0, m1, m2, m3, m4⟩ := HX1.out.five); (have HO1 := Lib.hid ho1.bytes); (have HE1 := Lib.hid hE1); (have HB1 := Lib.hid ((show Below w.heap.size w _ by go_grown).trans (hb1.mono (by simp)))); (clear ho1 hE1 hb1))
      | (go_at_call 25; (refine (refSupRight_is s true HR.out _).mono ?_); (rintro e w2 ⟨rfl, hb2⟩); (have HX2 := Lib.hid (HX1.out.below hb2)); (have HO2 := Lib.hid (HO1.out.below hb2)); (have HE2 := Lib.hid (HE1.out.below' hb2)); (have HB2 := Lib.hid (below_step HB1.out hb2)); (clear hb2)))
    clear m0 m1 m2 m3 m4
    go_cut [31] (fun c wx => c = .bool false ∧ w2.grownBy wx none)
    case first =>
      have gW : w2.grownBy w2.drew none := grown_of_below (Below.refl _ _).drew (Nat.le_refl _) none
      have n0 := Near.cell (w := w2.drew) (row := none) (HX2.out.at 0 _ rfl) (by simp)
      have n1 := Near.cell (w := w2.drew) (row := none) (HX2.out.at 1 _ rfl) (by simp)
      have n2 := Near.cell (w := w2.drew) (row := none) (HX2.out.at 2 _ rfl) (by simp)
      have n3 := Near.cell (w := w2.drew) (row := none) (HX2.out.at 3 _ rfl) (by simp)
      have n4 := Near.cell (w := w2.drew) (row := none) (HX2.out.at 4 _ rfl) (by simp)
      have HSD := Lib.hid (show Sents w2.drew A from HS.out.below HB2.out.drew)
      refine wp_region_mix (fun w' => ∃ x : Near w2.drew none, w' = x.world) [] 15 (by kernel_rfl) rfl ?_
      generalize w2.drew = D at *
      refine mix_reads_lit [0, 2] 13 (by kernel_rfl) (by kernel_rfl) (by kernel_rfl) (by kernel_rfl) rfl (NearC.of (World.grownBy.refl _ _)) ?_
      simp only [pick, List.filterMap_cons, List.filterMap_nil, List.getElem?_cons_succ, List.getElem?_cons_zero]
      repeat (first | go_big_quiet_step (fail) | quiet_step (fail))
      refine wpQuiet_nil ?_
      refine mix_deed_lit 1 12 (by kernel_rfl) (by kernel_rfl) rfl (fun K hK => ?_)
      simp only [comesUp, List.getElem?_cons_succ, List.getElem?_cons_zero]
      refine if_mk rfl ?_
      go_simp
      refine (superCheck_is s 0 HCK.out _ A HSD.out).mono ?_
      rintro e w3 ⟨⟨v3, l3, rfl, hE3⟩, hb3⟩
      have gb3 : D.grownBy w3 none := grown_of_below hb3 (Nat.le_refl _) none
      refine hK _ _ (fun _ _ => NearC.of gb3) ?_
      clear hK K
      refine mix_deed_lit 3 11 (by kernel_rfl) (by kernel_rfl) rfl (fun K hK => ?_)
      simp only [comesUp, List.getElem?_cons_succ, List.getElem?_cons_zero]
      refine if_mk rfl ?_
      go_simp
      refine (tells06_any (HSD.out.below hb3) l3 0 _ hE3 _ rfl).mono ?_
      rintro e w4 ⟨rfl, rfl⟩
      refine hK _ _ (fun _ _ => NearC.of gb3) ?_
      clear hK K
      refine mix_reads_lit [4, 5, 6, 7, 9, 10, 11, 12] 3 (by kernel_rfl) (by kernel_rfl) (by kernel_rfl) (by kernel_rfl) rfl (NearC.of gb3) ?_
      simp only [pick, List.filterMap_cons, List.filterMap_nil, List.getElem?_cons_succ, List.getElem?_cons_zero]
      repeat (first | go_big_quiet_step (fail) | quiet_step (fail))
      refine wpQuiet_nil ?_
      refine mix_deed_lit 8 2 (by kernel_rfl) (by kernel_rfl) rfl (fun K hK => ?_)
      simp only [comesUp, List.getElem?_cons_succ, List.getElem?_cons_zero]
      refine if_mk rfl ?_
      go_simp
      refine (place_is s.gen hg _).mono ?_
      rintro e w5 ⟨rfl, rfl⟩
      refine hK _ _ (fun _ _ => NearC.of gb3) ?_
      clear hK K
      refine mix_reads_lit [13, 14] 0 (by kernel_rfl) (by kernel_rfl) (by kernel_rfl) (by kernel_rfl) rfl (NearC.of gb3) ?_
      simp only [pick, List.filterMap_cons, List.filterMap_nil, List.getElem?_cons_succ, List.getElem?_cons_zero]
      repeat (first | go_big_quiet_step (fail) | quiet_step (fail))
      refine wpQuiet_nil ?_
      refine mix_done_lit (by kernel_rfl) ?_
      have HGG := Lib.hid (grown_trans gW gb3)
      clear n0 n1 n2 n3 n4 hE3 hb3 gb3 gW
      go_wp2_with fail
      go_meet
      exact ⟨by rw [HTM.out], HGG.out⟩
    case rest =>
      obtain ⟨rfl, hgr⟩ := hcut
      have HX3 := Lib.hid (HX2.out.grownR hgr (by simp))
      have HO3 := Lib.hid (bytes_grown HO2.out hgr)
      have hbb := grown_below hgr (by simp) (Nat.le_refl _)
      have HE3 := Lib.hid (HE2.out.below' hbb)
      have HB3 := Lib.hid (below_step HB2.out hbb)
      obtain ⟨m0, m1, m2, m3, m4⟩ := HX3.out.five
      clear hgr hbb
      obtain ⟨rfl, -⟩ := HE3.out.isNil
      have hll : (L == L) = true := by simp
      go_wp2_with (first
        | (go_at_call 27; (refine (refSupSeal_ok s 1 L hLL.out.symm _ HR.out (by decide) hg).mono ?_); (rintro e w5 ⟨⟨a5, c5, rfl, ho5⟩, hb5⟩); (have HO5 := Lib.hid ho5.bytes); (have HO35 := Lib.hid (HO3.out.below hb5)); (have HB5 := Lib.hid (below_step HB3.out hb5)); (clear ho5 hb5))
        | (go_at_call 17; (refine (same_any _ _ L L _ HO35.out HO5.out).mono ?_); (rintro e w7 ⟨rfl, hb7⟩); (have HB7 := Lib.hid (below_step HB5.out hb7)); (clear hb7))
        | (go_at_call 26; (refine (superAwake_any _ A (HS.out.below HB7.out)).mono ?_); (rintro e w8 ⟨rfl, hb8⟩); (have HB8 := Lib.hid (below_step HB7.out hb8)); (clear hb8)))
      go_ret
      exact ⟨rfl, HB8.out⟩
end Go.Proofs.YtaofhdoieffhhaaDoor
