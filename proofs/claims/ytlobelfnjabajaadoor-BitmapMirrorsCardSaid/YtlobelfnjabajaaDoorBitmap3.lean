/- bitmaps: Seal -/
import Derived.Test.YtlobelfnjabajaaDoorBitmap2
namespace Go.Proofs.YtlobelfnjabajaaDoor
open Go.RowKit
set_option linter.unusedVariables false
set_option linter.unusedSimpArgs false

theorem mapCheck_ok (m : Bm.Map) (h : Bm.Right m) (a0 : Option Addr) (c0 : Nat) (w : World) (A : Nat → Addr) {S : Nat → Prop} [Has S 1] (hs : SentsOn S w A) (hu : IntsAt w (.slice a0 m.used.length c0) m.used) :
    Calls Tryd.prog 41 #[.agg #[.int .u64 (m.gen : Int), .int .i64 m.blocks, .slice a0 m.used.length c0]] w fun e w' => e = .returned .nilIface ∧ Below w.heap.size w w' :=
  (mapCheck_any m a0 c0 w A hs hu).mono fun e w' ⟨⟨v, he, hE⟩, hb⟩ => by
    rw [show checkErr m = ([], 0) by unfold checkErr; rw [if_pos h]] at hE
    obtain ⟨rfl, _⟩ := hE.isNil
    exact ⟨he, hb⟩
theorem mapCheck_bad (m : Bm.Map) (h : ¬ Bm.Right m) (a0 : Option Addr) (c0 : Nat) (w : World) (A : Nat → Addr) {S : Nat → Prop} [Has S 1] (hs : SentsOn S w A) (hu : IntsAt w (.slice a0 m.used.length c0) m.used) :
    Calls Tryd.prog 41 #[.agg #[.int .u64 (m.gen : Int), .int .i64 m.blocks, .slice a0 m.used.length c0]] w fun e w' => (∃ t x l, e = .returned (.iface t x) ∧ ErrIs w' A w.heap.size l 1 (.iface t x)) ∧ Below w.heap.size w w' :=
  (mapCheck_any m a0 c0 w A hs hu).mono fun e w' ⟨⟨v, he, hE⟩, hb⟩ => by
    rw [show checkErr m = ([-1], 1) by unfold checkErr; rw [if_neg h]] at hE
    obtain ⟨t, x, rfl⟩ := hE.iface (by decide)
    exact ⟨⟨t, x, _, he, hE⟩, hb⟩
theorem one_is (gen : Nat) (at_ : Int) (R : Bool) (hR : decide (Bm.one gen at_) = R) (hg : gen < 18446744073709551616) (w : World) :
    Calls Tryd.prog 71 #[.int .u64 (gen : Int), .int .i64 at_] w fun e w' => e = .returned (.bool R) ∧ Below w.heap.size w w' := by subst hR; exact one_any gen at_ hg w

theorem sealC_ways {m : Bm.Map} {at_ size : Int} (h : Bm.sealC m at_ size ≠ 0) : (¬ Bm.Right m ∧ Bm.sealC m at_ size = 1) ∨ (Bm.Right m ∧ decide (Bm.one m.gen at_) = false ∧ Bm.sealC m at_ size = 2) ∨ (Bm.Right m ∧ decide (Bm.one m.gen at_) = true ∧ size < 256 ∧ Bm.sealC m at_ size = 2) ∨ (Bm.Right m ∧ decide (Bm.one m.gen at_) = true ∧ 256 ≤ size ∧ 1024 < size ∧ Bm.sealC m at_ size = 2) := by
  unfold Bm.sealC at *
  by_cases h1 : Bm.Right m
  · rw [if_pos h1] at h ⊢
    right
    by_cases h2 : Bm.one m.gen at_
    · right
      by_cases h3 : size < 256
      · left; exact ⟨h1, by simpa using h2, h3, by rw [if_neg (by omega)]⟩
      · by_cases h4 : 1024 < size
        · right; exact ⟨h1, by simpa using h2, by omega, h4, by rw [if_neg (by omega)]⟩
        · exact absurd (if_pos ⟨h2, by omega, by omega⟩) h
    · left; exact ⟨h1, by simpa using h2, by rw [if_neg (fun h => h2 h.1)]⟩
  · left; exact ⟨h1, if_neg h1⟩
set_option maxRecDepth 100000 in
set_option maxHeartbeats 2000000 in
theorem mapSeal_bad (m : Bm.Map) (a0 : Option Addr) (c0 : Nat) (at_ size : Int) (w : World) (A : Nat → Addr) {S : Nat → Prop} [Has S 1] [Has S 2] (hs : SentsOn S w A) (hu : IntsAt w (.slice a0 m.used.length c0) m.used) (hg : m.gen < 18446744073709551616) (h : Bm.sealC m at_ size ≠ 0) :
    Calls Tryd.prog 32 #[.agg #[.int .u64 (m.gen : Int), .int .i64 m.blocks, .slice a0 m.used.length c0], .int .i64 at_, .int .i64 size] w fun e w' => (∃ t x l, e = .returned (.tuple #[.slice none 0 0, .iface t x]) ∧ ErrIs w' A w.heap.size l (Bm.sealC m at_ size) (.iface t x)) ∧ Below w.heap.size w w' := by
  have HS := Lib.hid hs
  have HU := Lib.hid hu
  have g2 : w.cell? ⟨1, 0, none⟩ = some (.iface 189 (.pointer (some (A 2)))) := hs.cell 2 (by decide) (by decide)
  have l2 := World.block_lt_of_cell? w _ g2
  simp only at l2
  have HG2 := Lib.hid g2
  have hw := sealC_ways h
  clear hs hu g2 h
  generalize Bm.sealC m at_ size = K at *
  have HCB := fun hr => @mapCheck_bad m hr
  obtain ⟨gen, blocks, used⟩ := m
  simp only at *
  rcases hw with ⟨hr, rfl⟩ | ⟨hr, ho, rfl⟩ | ⟨hr, ho, h1, rfl⟩ | ⟨hr, ho, h1, h2, rfl⟩
  · have HR := Lib.hid hr
    clear hr
    go_enter Tryd.func32, Tryd.ntmps32
    go_wp2_with (first
      | (go_at_call 41; (refine (mapCheck_bad ⟨gen, blocks, used⟩ HR.out a0 c0 _ A (HS.out.below (by go_grown)) (HU.out.alloc _)).mono ?_); (rintro e w1 ⟨⟨t, x, l, rfl, hE⟩, hb1⟩); (have HBW := Lib.hid ((show Below w.heap.size w _ by go_grown).trans (hb1.mono (by simp)))); (have HE := Lib.hid (hE.mono (B' := w.heap.size) (by simp))); (clear hE hb1))
      | (go_at_call 49; (refine (faultWrap_any _ l 1 _ _ A _ HE.out (by decide) HBW.out.size).mono ?_); (rintro e w2 ⟨⟨v, rfl, hv⟩, hb2⟩); (obtain ⟨t2, x2, rfl⟩ := hv.iface (by decide)); (have HB2 := Lib.hid (below_step HBW.out hb2)); (have HV := Lib.hid hv); (clear hv hb2)))
    go_ret2
    exact ⟨⟨_, _, _, rfl, HV.out⟩, HB2.out⟩
  all_goals
    have HR := Lib.hid hr
    have HO := Lib.hid ho
    clear hr ho
    go_enter Tryd.func32, Tryd.ntmps32
    go_wp2_with (first
      | (go_at_call 41; (refine (mapCheck_ok ⟨gen, blocks, used⟩ HR.out a0 c0 _ A (HS.out.below (by go_grown)) (HU.out.alloc _)).mono ?_); (rintro e w1 ⟨rfl, hb1⟩); (have HX1 := Lib.hid ((BoxAt.new w [.int .u64 (gen : Int), .int .i64 blocks, .slice a0 used.length c0] 50).below hb1)); (obtain ⟨m0, m1, m2⟩ := HX1.out.three); (have HBW := Lib.hid ((show Below w.heap.size w _ by go_grown).trans (hb1.mono (by simp)))); (clear hb1))
      | (go_at_call 71; (refine (one_is gen at_ _ HO.out hg _).mono ?_); (rintro e w2 ⟨rfl, hb2⟩); (have HB2 := Lib.hid (below_step HBW.out hb2)); (have g22 := (HB2.out.cell (p := ⟨1, 0, none⟩) l2).trans HG2.out); (clear hb2))
      | (go_at_call 55; (refine (faultNew_any _ 2 _ _ A _ (sent_err 2 (by decide) (by decide)) (by decide) (Nat.le_refl _)).mono ?_); (rintro e w3 ⟨⟨v, rfl, hv⟩, hb3⟩); (obtain ⟨t2, x2, rfl⟩ := hv.iface (by decide)); (have HB3 := Lib.hid (below_step HB2.out hb3)); (have HV := Lib.hid (hv.mono (B' := w.heap.size) HB2.out.size)); (clear hv hb3)))
    go_ret2
    exact ⟨⟨_, _, _, rfl, HV.out⟩, HB3.out⟩
theorem sealC_ok {m : Bm.Map} {at_ size : Int} (h : Bm.sealC m at_ size = 0) : Bm.Right m ∧ Bm.one m.gen at_ ∧ 256 ≤ size ∧ size ≤ 1024 := by
  unfold Bm.sealC at h
  split at h
  · split at h
    · rename_i h1 h2; exact ⟨h1, h2.1, h2.2.1, h2.2.2⟩
    · cases h
  · cases h

theorem put4_is (v : Value) (l m : List UInt8) (n : Nat) (N : Int) (w : World) (hm : l ++ Fld.le 4 n = m) (hN : N = (n : Int)) (hb : BytesAt w v l) (hn : n < 4294967296) (hlen : l.length ≤ 1000) :
    Calls Tryd.prog 72 #[v, .int .u64 N, .int .i64 4] w fun e w' => (∃ a c, e = .returned (.tuple #[.slice a m.length c, .nilIface]) ∧ Own w' w.heap.size (.slice a m.length c) m) ∧ Below w.heap.size w w' := by
  subst hm
  exact put_is v l n 4 N 4 w hN rfl hb (by decide) hn (by omega) (by omega)
theorem mapSeal_page (at_ : Int) (gen : Nat) (B : List UInt8) (a : Option Addr) (c : Nat) (size : Nat) (L : List UInt8) (hL : Pg.sealL ⟨5, at_, gen, B⟩ size = L) (w : World) (A : Nat → Addr) {S : Nat → Prop} [Has S 1] [Has S 2] [Has S 5] (hs : SentsOn S w A) (hb : BytesAt w (.slice a B.length c) B) (h : Pg.checkC ⟨5, at_, gen, B⟩ size = 0) (hg : gen < 18446744073709551616) :
    Calls Tryd.prog 73 #[.agg #[.int .i64 5, .int .i64 at_, .int .u64 (gen : Int), .slice a B.length c], .int .i64 (size : Int)] w fun e w' => (∃ a2 c2, e = .returned (.tuple #[.slice a2 L.length c2, .nilIface]) ∧ Own w' w.heap.size (.slice a2 L.length c2) L) ∧ Below w.heap.size w w' := by
  subst hL
  exact (seal_ok ⟨5, at_, gen, B⟩ a c size w A hs hb h hg).mono fun e w' ⟨h, hb⟩ => ⟨h.seen, hb⟩
theorem bits_is (gen blocks : Nat) (used : List Int) (B : List UInt8) (hB : Bm.bitsL blocks used = B) (a0 : Option Addr) (c0 : Nat) (w : World) (hu : IntsAt w (.slice a0 used.length c0) used) (hn : ∀ n ∈ used, 0 ≤ n ∧ n < (blocks : Int)) (hbl : blocks ≤ 256) :
    Calls Tryd.prog 74 #[.agg #[.int .u64 (gen : Int), .int .i64 (blocks : Int), .slice a0 used.length c0]] w fun e w' => (∃ a c, e = .returned (.slice a B.length c) ∧ Own w' w.heap.size (.slice a B.length c) B) ∧ Below w.heap.size w w' := by
  subst hB; exact bits_any gen blocks used a0 c0 w hu hn hbl
theorem one_lt (gen : Nat) (at_ : Int) (h : Bm.one gen at_) : 0 ≤ at_ ∧ at_ ≤ 255 := by have := Bm.one_bd h; omega
set_option maxRecDepth 100000 in
set_option maxHeartbeats 4000000 in
theorem mapSeal_ok (m : Bm.Map) (at_ : Int) (size : Nat) (L : List UInt8) (hL : Bm.sealB m at_ size = L) (a0 : Option Addr) (c0 : Nat) (w : World) (A : Nat → Addr) {S : Nat → Prop} [Has S 1] [Has S 2] [Has S 5] (hs : SentsOn S w A) (hu : IntsAt w (.slice a0 m.used.length c0) m.used) (hg : m.gen < 18446744073709551616) (h : Bm.sealC m at_ size = 0) :
    Calls Tryd.prog 32 #[.agg #[.int .u64 (m.gen : Int), .int .i64 m.blocks, .slice a0 m.used.length c0], .int .i64 at_, .int .i64 (size : Int)] w fun e w' => (∃ a c, e = .returned (.tuple #[.slice a L.length c, .nilIface]) ∧ Own w' w.heap.size (.slice a L.length c) L) ∧ Below w.heap.size w w' := by
  have HS := Lib.hid hs
  have HU := Lib.hid hu
  have HL := Lib.hid hL
  obtain ⟨hr, ho, hz1, hz2⟩ := sealC_ok h
  have HR := Lib.hid hr
  have HO := Lib.hid (show decide (Bm.one m.gen at_) = true by simpa using ho)
  have HCK := Lib.hid (Bm.check_page (at_ := at_) (size := size) hr (one_lt _ _ ho) (by omega))
  have hn := fun n hn => Bm.right_lt hr (n := n) hn
  have hr1 := hr.1
  have hr2 := hr.2.1
  have hr3 := hr.2.2.2.1
  clear hs hu hL h hr ho
  obtain ⟨gen, blocks, used⟩ := m
  simp only at *
  obtain ⟨bn, rfl⟩ : ∃ n : Nat, blocks = n := ⟨blocks.toNat, by omega⟩
  have HN := Lib.hid hn
  have b1 : bn ≤ 256 := by omega
  have b2 : used.length ≤ 256 := by omega
  have b3 : 8 ≤ bn := by omega
  have hz3 : size ≤ 1024 := by omega
  have hz4 : 256 ≤ size := by omega
  clear hn hr1 hr2 hr3 hz1 hz2
  obtain ⟨q1, hq1⟩ : ∃ m, ([] : List UInt8) ++ Fld.le 4 bn = m := ⟨_, rfl⟩
  obtain ⟨q2, hq2⟩ : ∃ m, q1 ++ Fld.le 4 used.length = m := ⟨_, rfl⟩
  obtain ⟨BL, hBL⟩ : ∃ B, Bm.bitsL bn used = B := ⟨_, rfl⟩
  obtain ⟨q3, hq3⟩ : ∃ m, q2 ++ BL = m := ⟨_, rfl⟩
  have HL1 := Lib.hid (show q1.length = 4 by rw [← hq1]; simp [Fld.le_length])
  have HL2 := Lib.hid (show q2.length = 8 by rw [← hq2]; simp [Fld.le_length, HL1.out])
  have HLB := Lib.hid (show BL.length ≤ 32 by rw [← hBL, Bm.bitsL_length]; omega)
  have hpg : Bm.pageOf ⟨gen, bn, used⟩ at_ = ⟨5, at_, gen, q3⟩ := by
    unfold Bm.pageOf Bm.bodyL
    rw [← hq3, ← hq2, ← hq1, ← hBL]
    simp
  have HPG := Lib.hid hpg
  have H1 := Lib.hid hq1
  have H2 := Lib.hid hq2
  have H3 := Lib.hid hq3
  have HBL := Lib.hid hBL
  clear hq1 hq2 hq3 hBL hpg
  go_enter Tryd.func32, Tryd.ntmps32
  go_upto_region 8 with (first
      | (go_at_call 41; (refine (mapCheck_ok ⟨gen, bn, used⟩ HR.out a0 c0 _ A (HS.out.below (by go_grown)) (HU.out.alloc _)).mono ?_); (rintro e w1 ⟨rfl, hb1⟩); (have HX1 := Lib.hid ((BoxAt.new w [.int .u64 (gen : Int), .int .i64 (bn : Int), .slice a0 used.length c0] 50).below hb1)); (obtain ⟨m0, m1, m2⟩ := HX1.out.three); (have HB1 := Lib.hid ((show Below w.heap.size w _ by go_grown).trans (hb1.mono (by simp)))); (clear hb1))
      | (go_at_call 71; (refine (one_is gen at_ _ HO.out hg _).mono ?_); (rintro e w2 ⟨rfl, hb2⟩); (have HX2 := Lib.hid (HX1.out.below hb2)); (obtain ⟨x0, x1, x2⟩ := HX2.out.three); (have HB2 := Lib.hid (below_step HB1.out hb2)); (clear hb2))
      | (go_at_call 72; (refine (put4_is _ [] q1 bn _ _ H1.out (by first | rfl | exact (IntKind.wrap_u64 _).trans (by omega)) (BytesAt.nil _) (by omega) (by simp)).mono ?_); (rintro e w3 ⟨⟨a3, c3, rfl, ho3⟩, hb3⟩); (have HX3 := Lib.hid (HX2.out.below hb3)); (have HB3 := Lib.hid (below_step HB2.out hb3)); (have HO3 := Lib.hid ho3); (clear hb3 ho3)))
  obtain ⟨y0, y1, y2⟩ := HX3.out.three
  go_upto_region 11 with (go_at_call 72; (refine (put4_is _ q1 q2 used.length _ _ H2.out (by first | rfl | exact (IntKind.wrap_u64 _).trans (by omega)) HO3.out.bytes (by omega) (by have := HL1.out; omega)).mono ?_); (rintro e w4 ⟨⟨a4, c4, rfl, ho4⟩, hb4⟩); (have HX4 := Lib.hid (HX3.out.below hb4)); (have HB4 := Lib.hid (below_step HB3.out hb4)); (have HO4 := Lib.hid ho4); (clear hb4 ho4))
  have hx3 := HX3.out.lt
  rcases HO4.out.row with ⟨-, hnil⟩ | ⟨g, cap, e4, hg1, hg2, hg3, hg4⟩
  · have := HL2.out; rw [hnil] at this; cases this
  obtain ⟨rfl, rfl⟩ : a4 = some ⟨g, 0, none⟩ ∧ c4 = cap := by injection e4 with e1 e2 e3; exact ⟨e1, e3⟩
  clear e4
  have n0 := Near.cell (w := w4.drew) (row := some g) (HX4.out.at 0 _ rfl) (by simp; omega)
  have n1 := Near.cell (w := w4.drew) (row := some g) (HX4.out.at 1 _ rfl) (by simp; omega)
  have n2 := Near.cell (w := w4.drew) (row := some g) (HX4.out.at 2 _ rfl) (by simp; omega)
  refine wp_region_mix (fun w' => ∃ x : Near w4.drew (some g), w' = x.world) [] 15 (by kernel_rfl) rfl ?_
  refine mix_reads_lit [0, 1, 2, 3, 4, 8] 9 (by kernel_rfl) (by kernel_rfl) (by kernel_rfl) (by kernel_rfl) rfl (NearC.of (World.grownBy.refl _ _)) ?_
  simp only [pick, List.filterMap_cons, List.filterMap_nil, List.getElem?_cons_succ, List.getElem?_cons_zero]
  repeat (first | go_big_quiet_step (fail) | quiet_step (fail))
  refine wpQuiet_nil ?_
  have hbD : Below w.heap.size w w4.drew := HB4.out.drew
  have hoD : Own w4.drew w3.heap.size (.slice (some ⟨g, 0, none⟩) q2.length c4) q2 := HO4.out.below (Below.refl _ _).drew (Nat.le_refl _)
  have hDs : w4.drew.heap.size = w4.heap.size := rfl
  generalize w4.drew = D at *
  refine mix_deed_lit 5 8 (by kernel_rfl) (by kernel_rfl) rfl (fun K hK => ?_)
  simp only [comesUp, List.getElem?_cons_succ, List.getElem?_cons_zero]
  refine if_mk rfl ?_
  go_simp
  refine (bits_is gen bn used BL HBL.out a0 c0 _ (HU.out.below hbD) HN.out b1).mono ?_
  rintro e w5 ⟨⟨a5, c5, rfl, ho5⟩, hb5⟩
  have gb1 : D.grownBy w5 (some g) := grown_of_below hb5 (Nat.le_refl _) _
  refine hK _ _ (fun _ _ => NearC.of gb1) ?_
  clear hK K
  refine mix_deed_lit 6 7 (by kernel_rfl) (by kernel_rfl) rfl (fun K hK => ?_)
  simp only [comesUp, List.getElem?_cons_succ, List.getElem?_cons_zero]
  refine if_mk rfl ?_
  refine step_append_bytes (.tmp 59) (.tmp 61) rfl w3.heap.size _ q2 rfl (hoD.below hb5 (Nat.le_refl _)) _ BL rfl ho5.bytes (by have := HL2.out; have := HLB.out; omega) (by have := hb5.size; omega) ?_
  intro v6 w6 ho6 hg6
  rw [H3.out] at ho6
  obtain ⟨a6, c6, rfl, -, -⟩ := ho6.slice
  have gb2 : D.grownBy w6 (some g) := grown_trans gb1 hg6
  refine hK _ _ (fun _ _ => NearC.of gb2) ?_
  clear hK K
  refine mix_reads_lit [7] 6 (by kernel_rfl) (by kernel_rfl) (by kernel_rfl) (by kernel_rfl) rfl (NearC.of gb2) ?_
  simp only [pick, List.filterMap_cons, List.filterMap_nil, List.getElem?_cons_succ, List.getElem?_cons_zero]
  repeat (first | go_big_quiet_step (fail) | quiet_step (fail))
  refine wpQuiet_nil ?_
  refine mix_deed_lit 9 5 (by kernel_rfl) (by kernel_rfl) rfl (fun K hK => ?_)
  simp only [comesUp, List.getElem?_cons_succ, List.getElem?_cons_zero]
  refine if_mk rfl ?_
  go_simp
  have hB6 : Below w.heap.size w w6 := hbD.grown gb2 hbD.size (fun k hk => by cases hk; have := HB3.out.size; omega)
  refine (mapSeal_page at_ gen q3 a6 c6 size L (by rw [← HL.out, Bm.sealB, HPG.out]) _ A (HS.out.below hB6) ho6.bytes (by have := HCK.out; rwa [HPG.out] at this) hg).mono ?_
  rintro e w7 ⟨⟨a7, c7, rfl, ho7⟩, hb7⟩
  have gb3 := grown_trans gb2 (grown_of_below hb7 (Nat.le_refl _) _)
  refine hK _ _ (fun _ _ => NearC.of gb3) ?_
  clear hK K
  refine mix_flat_lit [10, 11, 12, 13, 14] 0 (by kernel_rfl) (by kernel_rfl) (by kernel_rfl) (by kernel_rfl) rfl ?_
  simp only [pick, List.filterMap_cons, List.filterMap_nil, List.getElem?_cons_succ, List.getElem?_cons_zero]
  repeat (first | go_big_quiet_step (fail) | quiet_step (fail))
  refine wpQuiet_nil ?_
  refine mix_done_lit (by kernel_rfl) ?_
  have HO7 := Lib.hid (ho7.mono hB6.size)
  have HB7 := Lib.hid (below_step hB6 hb7)
  clear ho7 ho6 ho5 hb7 hb5 gb1 gb2 gb3 hg6 hB6 n0 n1 n2 hbD hoD
  go_wp2_with (go_at_call 49; refine (faultWrap_nil _ _).mono ?_; rintro e w8 ⟨rfl, rfl⟩)
  go_ret2
  exact ⟨⟨_, _, rfl, HO7.out⟩, HB7.out⟩
end Go.Proofs.YtlobelfnjabajaaDoor
