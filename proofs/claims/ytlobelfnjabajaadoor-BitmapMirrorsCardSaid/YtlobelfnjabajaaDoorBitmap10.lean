/- bitmaps: awake -/
import Derived.Test.YtlobelfnjabajaaDoorBitmap8
import Derived.Test.YtlobelfnjabajaaDoorBitmap9
import Derived.Test.YtlobelfnjabajaaDoorTells16
namespace Go.Proofs.YtlobelfnjabajaaDoor
open Go.RowKit
set_option linter.unusedVariables false
set_option linter.unusedSimpArgs false

theorem mapOpen_is (l : List UInt8) (at_ : Int) (gen : Nat) (blocks : Int) (m : Bm.Map) (k : Nat) (X : Int) (hT : mapOpenT l at_ gen blocks = (m, k, X)) (a : Option Addr) (c : Nat) (w : World) (A : Nat → Addr) {S : Nat → Prop} [Has S 1] [Has S 2] [Has S 5] (hs : SentsOn S w A) (hb : BytesAt w (.slice a l.length c) l) (hg : gen < 18446744073709551616) :
    Calls Tryd.prog 44 #[.slice a l.length c, .int .i64 at_, .int .u64 (gen : Int), .int .i64 blocks] w fun e w' => (∃ a2 c2 ev lp, e = .returned (.tuple #[.agg #[.int .u64 (m.gen : Int), .int .i64 m.blocks, .slice a2 m.used.length c2], ev]) ∧ OwnI w' w.heap.size (.slice a2 m.used.length c2) m.used ∧ ErrIs w' A w.heap.size lp k ev ∧ pageOf lp = X ∧ lp.length ≤ 1) ∧ Below w.heap.size w w' := by
  have h := mapOpen_any a c l at_ gen blocks w A hs hb hg
  rw [hT] at h
  exact h
def awakeM : Bm.Map := ⟨1, 10, firstL 7⟩
theorem awakeM_right : Bm.Right awakeM := by unfold Bm.Right; decide
theorem awakeM_one : Bm.one 1 4 := by unfold Bm.one; decide
theorem awakeM_seal : Bm.sealC awakeM 4 (256 : Nat) = 0 := by
  unfold Bm.sealC
  rw [if_pos awakeM_right, if_pos ⟨awakeM_one, by decide, by decide⟩]
theorem awakeM_len : (Bm.sealB awakeM 4 256).length = 256 := Bm.seal_len awakeM_right (by decide)
theorem awakeM_open : mapOpenT (Bm.sealB awakeM 4 256) 4 1 10 = (awakeM, 0, -1) := mapOpen_some (Bm.open_seal (m := awakeM) awakeM_right awakeM_one (by decide) (by decide))
theorem awakeM_byte : (Bm.sealB awakeM 4 256)[28]? = some 127 := by
  unfold Bm.sealB Pg.sealL Pg.bare
  have hb : (Bm.pageOf awakeM 4).body = Bm.bodyL awakeM := rfl
  rw [hb]
  have hl : (Bm.bodyL awakeM).length = 10 := by rw [Bm.bodyL_length]; rfl
  rw [List.getElem?_append_left (by simp [Pg.headL_length, hl]; omega), List.getElem?_append_right (by rw [Pg.headL_length]; omega), Pg.headL_length, List.getElem?_append_left (by rw [hl]; omega)]
  unfold Bm.bodyL
  rw [List.getElem?_append_right (by rw [Fld.le_length]; omega), Fld.le_length, List.getElem?_append_right (by rw [Fld.le_length]; omega), Fld.le_length]
  decide
theorem awakeMSeal (L : List UInt8) (hL : Bm.sealB awakeM 4 256 = L) (a0 : Option Addr) (c0 : Nat) (w : World) (A : Nat → Addr) {S : Nat → Prop} [Has S 1] [Has S 2] [Has S 5] (hs : SentsOn S w A) (hu : IntsAt w (.slice a0 7 c0) (firstL 7)) :
    Calls Tryd.prog 32 #[.agg #[.int .u64 1, .int .i64 10, .slice a0 7 c0], .int .i64 4, .int .i64 256] w fun e w' => (∃ a c, e = .returned (.tuple #[.slice a L.length c, .nilIface]) ∧ Own w' w.heap.size (.slice a L.length c) L) ∧ Below w.heap.size w w' :=
  mapSeal_ok awakeM 4 256 L hL a0 c0 w A hs hu (by decide) awakeM_seal
theorem awakeMOpen (L : List UInt8) (hL : Bm.sealB awakeM 4 256 = L) (a : Option Addr) (c : Nat) (w : World) (A : Nat → Addr) {S : Nat → Prop} [Has S 1] [Has S 2] [Has S 5] (hs : SentsOn S w A) (hb : BytesAt w (.slice a L.length c) L) :
    Calls Tryd.prog 44 #[.slice a L.length c, .int .i64 4, .int .u64 1, .int .i64 10] w fun e w' => (∃ a2 c2, e = .returned (.tuple #[.agg #[.int .u64 1, .int .i64 10, .slice a2 7 c2], .nilIface])) ∧ Below w.heap.size w w' := by
  subst hL
  refine (mapOpen_is _ 4 1 10 _ _ _ awakeM_open a c w A hs hb (by decide)).mono fun e w' ⟨⟨a2, c2, ev, lp, he, ho, hE, _⟩, hb⟩ => ⟨?_, hb⟩
  obtain ⟨rfl, _⟩ := hE.isNil
  exact ⟨a2, c2, he⟩
set_option maxRecDepth 100000 in
set_option maxHeartbeats 2000000 in
theorem mapAwake_any (w : World) (A : Nat → Addr) {S : Nat → Prop} [Has S 1] [Has S 2] [Has S 5] (hs : SentsOn S w A) : Calls Tryd.prog 30 #[] w fun e w' => e = .returned (.bool true) ∧ Below w.heap.size w w' := by
  have HS := Lib.hid hs
  clear hs
  obtain ⟨L, hL⟩ : ∃ L, Bm.sealB awakeM 4 256 = L := ⟨_, rfl⟩
  have HL := Lib.hid hL
  have hlen : L.length = 256 := by rw [← hL]; exact awakeM_len
  have hbyte : L[28]? = some 127 := by rw [← hL]; exact awakeM_byte
  have HBYTE := Lib.hid hbyte
  have HLEN := Lib.hid hlen
  clear hL hbyte hlen
  go_enter Tryd.func30, Tryd.ntmps30
  go_upto_region 2 with (go_at_call 70; (refine (first_any 7 (by decide) _).mono ?_); (rintro e w1 ⟨⟨a1, c1, rfl, ho1⟩, hb1⟩); (have HO1 := Lib.hid ho1); (have HB1 := Lib.hid hb1); (clear ho1 hb1))
  go_upto_region 3 with (go_at_call 32; (refine (awakeMSeal L HL.out a1 c1 _ A (HS.out.below (HB1.out.alloc HB1.out.size _)) ((HO1.out.alloc _).ints)).mono ?_); (rintro e w2 ⟨⟨a2, c2, rfl, ho2⟩, hb2⟩); (have HO2 := Lib.hid ho2.bytes); (have HB2 := Lib.hid (below_step (HB1.out.alloc HB1.out.size _) hb2)); (clear ho2 hb2))
  obtain ⟨aa, cc, e2, q1, q2, q3⟩ := HO2.out
  obtain ⟨rfl, rfl⟩ : a2 = aa ∧ c2 = cc := by injection e2 with e1 e2 e3; exact ⟨e1, e3⟩
  rcases q3 with hn | ⟨b1, o1, rfl, hc1⟩
  · have := HLEN.out; rw [hn] at this; cases this
  go_upto_region 4 with (go_at_call 44; (refine (awakeMOpen L HL.out _ c2 _ A (HS.out.below HB2.out) HO2.out).mono ?_); (rintro e w3 ⟨⟨a3, c3, rfl⟩, hb3⟩); (have HO3 := Lib.hid (HO2.out.below hb3)); (have HB3 := Lib.hid (below_step HB2.out hb3)); (have hcx := (hb3.cell (World.block_lt_of_cell? _ _ (hc1 28 127 HBYTE.out))).trans (hc1 28 127 HBYTE.out)); (clear hb3))
  have hl1 : (28 : Int) < (L.length : Int) := by rw [HLEN.out]; decide
  have hl2 : ((L.length : Int) == 256) = true := by rw [HLEN.out]; rfl
  have hl3 := HLEN.out
  have hblt : b1 < w3.heap.size := World.block_lt_of_cell? _ _ hcx
  have hne1 : ¬ b1 = w3.heap.size := Nat.ne_of_lt hblt
  have hne2 : ¬ w3.heap.size = b1 := Nat.ne_of_gt hblt
  have hcx2 : w3.cell? ⟨b1, o1 + 28, none⟩ = some (.int .u8 127) := hcx
  clear hc1 q1 q2 hcx
  go_wp2_with fail
  go_ret
  exact ⟨rfl, HB3.out.alloc HB3.out.size _⟩

theorem refMapRight_is2 (m : Bm.Map) (B : Bool) (hB : decide (Bm.Right m) = B) (gen : Nat) (hgen : m.gen = gen) (a0 : Option Addr) (c0 : Nat) (w : World) (hu : IntsAt w (.slice a0 m.used.length c0) m.used) :
    Calls Tryd.prog 28 #[.agg #[.int .u64 (gen : Int), .int .i64 m.blocks, .slice a0 m.used.length c0]] w fun e w' => e = .returned (.bool B) ∧ Below w.heap.size w w' := by subst hgen; exact refMapRight_is m B hB a0 c0 w hu
/-- the ways of a map that may be, at a place that may not -/
theorem range_ways {gen : Nat} {at_ size F : Int} (hF : Bm.first gen = F) (h : decide (Bm.one gen at_) = false ∨ decide (Bm.one gen at_) = true ∧ (size < 256 ∨ 1024 < size)) :
    ((at_ != F) = true ∧ (at_ != F + 1) = true) ∨ ((at_ != F) = false ∧ size < 256) ∨ ((at_ != F) = true ∧ (at_ != F + 1) = false ∧ size < 256) ∨ ((at_ != F) = false ∧ 256 ≤ size ∧ 1024 < size) ∨ ((at_ != F) = true ∧ (at_ != F + 1) = false ∧ 256 ≤ size ∧ 1024 < size) := by
  rcases one_ways gen at_ F hF with ⟨e1, e2⟩ | ⟨e1, e2⟩ | ⟨e1, e2, e3⟩
  · rw [e2] at h
    have o1 : (at_ != F) = false := by simp [e1]
    simp [o1] at h ⊢
    omega
  · rw [e2] at h
    have o1 : (at_ != F) = true := by simp [e1]; omega
    have o2 : (at_ != F + 1) = false := by simp [e1]
    simp [o1, o2] at h ⊢
    omega
  · left
    exact ⟨by simpa using e1, by simpa using e2⟩
set_option maxRecDepth 100000 in
set_option maxHeartbeats 8000000 in
theorem bitmapSeals_walk (m : Bm.Map) (a0 : Option Addr) (c0 : Nat) (at_ size : Int) (w : World) (A : Nat → Addr) (hs : Sents w A) (hu : IntsAt w (.slice a0 m.used.length c0) m.used) (hg : m.gen < 18446744073709551616) :
    Calls Tryd.prog 10 #[.agg #[.int .u64 (m.gen : Int), .int .i64 m.blocks, .slice a0 m.used.length c0], .int .i64 at_, .int .i64 size] w fun e w' => e = .returned (.bool true) ∧ Below w.heap.size w w' := by
  have hul : m.used.length ≤ 9223372036854775807 := by
    obtain ⟨a', c', e, q1, q2, _⟩ := hu
    unfold maxLen at q2
    omega
  have HS := Lib.hid hs
  have HU := Lib.hid hu
  obtain ⟨F, hF⟩ : ∃ F, Bm.first m.gen = F := ⟨_, rfl⟩
  have HF := Lib.hid hF
  have hFb : 2 ≤ F ∧ F ≤ 4 := by rw [← hF]; unfold Bm.first; omega
  clear hs hu
  by_cases h400 : 400 < m.used.length
  · obtain ⟨gen, blocks, used⟩ := m
    simp only at *
    have h4 : 400 < (used.length : Int) := by omega
    go_enter Tryd.func10, Tryd.ntmps10
    go_wp2_with (go_at_call 30; (refine (mapAwake_any _ A (HS.out.below (by go_grown))).mono ?_); (rintro e w1 ⟨rfl, hb1⟩); (have HB1 := Lib.hid ((show Below w.heap.size w _ by go_grown).trans (hb1.mono (by simp)))); (clear hb1))
    go_ret
    exact ⟨rfl, HB1.out⟩
  by_cases hk : Bm.sealC m at_ size = 0
  · obtain ⟨hr, ho, hz1, hz2⟩ := sealC_ok hk
    have HR := Lib.hid hr
    have HRD := Lib.hid (show decide (Bm.Right m) = true by simpa using hr)
    have hat := one_lt _ _ ho
    have how : (at_ != F) = false ∨ ((at_ != F) = true ∧ (at_ != F + 1) = false) := by
      rcases one_ways m.gen at_ F hF with ⟨e1, -⟩ | ⟨e1, -⟩ | ⟨-, -, e3⟩
      · left; simp [e1]
      · right; simp [e1]; omega
      · simp only [decide_eq_false_iff_not] at e3; exact absurd ho e3
    obtain ⟨sz, rfl⟩ : ∃ n : Nat, size = n := ⟨size.toNat, by omega⟩
    obtain ⟨L, hL⟩ : ∃ L, Bm.sealB m at_ sz = L := ⟨_, rfl⟩
    have HL := Lib.hid hL
    have HK := Lib.hid hk
    have HAT := Lib.hid hat
    have hz3 : 256 ≤ sz := by omega
    have hz4 : sz ≤ 1024 := by omega
    have hLL : (L == L) = true := by simp
    have he := Tryd.two_eq
    clear hF hL hk hr ho hat hz1 hz2
    obtain ⟨gen, blocks, used⟩ := m
    simp only at *
    have h4 : (used.length : Int) ≤ 400 := by omega
    rcases how with o1 | ⟨o1, o2⟩
    all_goals
      go_enter Tryd.func10, Tryd.ntmps10
      go_upto_region 5 with (go_at_call 32; (refine (mapSeal_ok ⟨gen, blocks, used⟩ at_ sz L HL.out a0 c0 _ A (HS.out.below (by go_grown)) (HU.out.alloc _) hg HK.out).mono ?_); (rintro e w1 ⟨⟨a1, c1, rfl, ho1⟩, hb1⟩); (have HX1 := Lib.hid ((BoxAt.new w [.int .u64 (gen : Int), .int .i64 blocks, .slice a0 used.length c0] 50).below hb1)); (have HB1 := Lib.hid ((show Below w.heap.size w _ by go_grown).trans (hb1.mono (by simp)))); (have HO1 := Lib.hid ho1.bytes); (clear ho1 hb1))
      obtain ⟨m0, m1, m2⟩ := HX1.out.three
      go_upto_region 7 with (first
        | (go_at_call 29; (refine (of_any gen blocks a0 used.length c0 _).mono ?_); (rintro e w2 ⟨rfl, hb2⟩); (have HB2 := Lib.hid (below_step HB1.out hb2)); (have HX2 := Lib.hid (HX1.out.below hb2)); (have HO2 := Lib.hid (HO1.out.below hb2)); (clear hb2))
        | (go_at_call 28; (refine (refMapRight_is ⟨gen, blocks, used⟩ _ HRD.out a0 c0 _ (HU.out.below HB2.out)).mono ?_); (rintro e w3 ⟨rfl, hb3⟩); (have HB3 := Lib.hid (below_step HB2.out hb3)); (have HX3 := Lib.hid (HX2.out.below hb3)); (have HO3 := Lib.hid (HO2.out.below hb3)); (clear hb3)))
      clear m0 m1 m2
      obtain ⟨m0, m1, m2⟩ := HX3.out.three
      go_upto_region 9 with (first
        | (go_at_call 41; (refine (mapCheck_ok ⟨gen, blocks, used⟩ HR.out a0 c0 _ A (HS.out.below HB3.out) (HU.out.below HB3.out)).mono ?_); (rintro e w4 ⟨rfl, hb4⟩); (have HB4 := Lib.hid (below_step HB3.out hb4)); (have HX4 := Lib.hid (HX3.out.below hb4)); (have HO4 := Lib.hid (HO3.out.below hb4)); (clear hb4))
        | (go_at_call 40; (refine (tells16_any (HS.out.below HB4.out) [] 0 _ (ErrIs.nil _ _ 0) _ rfl).mono ?_); (rintro e w5 ⟨rfl, rfl⟩)))
      clear m0 m1 m2
      obtain ⟨m0, m1, m2⟩ := HX4.out.three
      go_upto_region 14 with (go_at_call 42; (refine (refFirst_is gen F HF.out hg _).mono ?_); (rintro e w6 ⟨rfl, rfl⟩))
      go_wp2_with (first
        | (go_at_call 29; (refine (of_any gen blocks a0 used.length c0 _).mono ?_); (rintro e w7 ⟨rfl, hb7⟩); (have HB7 := Lib.hid (below_step HB4.out hb7)); (have HX7 := Lib.hid (HX4.out.below hb7)); (have HO7 := Lib.hid (HO4.out.below hb7)); (clear hb7))
        | (go_at_call 43; (refine (refMapSeal_ok ⟨gen, blocks, used⟩ at_ sz L HL.out a0 c0 _ (HU.out.below HB7.out) hg HR.out HAT.out ⟨hz3, hz4⟩).mono ?_); (rintro e w8 ⟨⟨a8, c8, rfl, ho8⟩, hb8⟩); (have HB8 := Lib.hid (below_step HB7.out hb8)); (have HX8 := Lib.hid (HX7.out.below hb8)); (have HO8 := Lib.hid (HO7.out.below hb8)); (have HQ8 := Lib.hid ho8.bytes); (clear hb8 ho8))
        | (go_at_call 19; (refine (same_is _ _ L L _ hLL _ HO8.out HQ8.out).mono ?_); (rintro e w9 ⟨rfl, hb9⟩); (have HB9 := Lib.hid (below_step HB8.out hb9)); (have HX9 := Lib.hid (HX8.out.below hb9)); (obtain ⟨x0, x1, x2⟩ := HX9.out.three); (clear hb9))
        | (go_at_call 31; (refine (places_is gen F HF.out hg _).mono ?_); (rintro e wa ⟨rfl, hba⟩); (have HBa := Lib.hid (below_step HB9.out hba)); (clear hba))
        | (go_at_call 30; (refine (mapAwake_any _ A (HS.out.below HBa.out)).mono ?_); (rintro e wb ⟨rfl, hbb⟩); (have HBb := Lib.hid (below_step HBa.out hbb)); (clear hbb)))
      go_ret
      exact ⟨rfl, HBb.out⟩
  · have hw := sealC_ways hk
    have HK := Lib.hid hk
    have hw2 : (¬ Bm.Right m ∧ Bm.sealC m at_ size = 1) ∨ (Bm.Right m ∧ (decide (Bm.one m.gen at_) = false ∨ decide (Bm.one m.gen at_) = true ∧ (size < 256 ∨ 1024 < size)) ∧ Bm.sealC m at_ size = 2) := by
      rcases hw with ⟨h1, h2⟩ | ⟨h1, h2, h3⟩ | ⟨h1, h2, h3, h4⟩ | ⟨h1, h2, h3, h4, h5⟩
      · exact .inl ⟨h1, h2⟩
      · exact .inr ⟨h1, .inl h2, h3⟩
      · exact .inr ⟨h1, .inr ⟨h2, .inl h3⟩, h4⟩
      · exact .inr ⟨h1, .inr ⟨h2, .inr h4⟩, h5⟩
    clear hw hk
    rcases hw2 with ⟨hr, hc⟩ | ⟨hr, hrg, hc⟩
    · have HR := Lib.hid hr
      have HC := Lib.hid hc
      have HRD := Lib.hid (show decide (Bm.Right m) = false by simpa using hr)
      clear hr hc hF
      obtain ⟨gen, blocks, used⟩ := m
      simp only at *
      have h4 : (used.length : Int) ≤ 400 := by omega
      go_enter Tryd.func10, Tryd.ntmps10
      go_upto_region 5 with (go_at_call 32; (refine (mapSeal_bad ⟨gen, blocks, used⟩ a0 c0 at_ size _ A (HS.out.below (by go_grown)) (HU.out.alloc _) hg HK.out).mono ?_); (rintro e w1 ⟨⟨t1, y1, lp1, rfl, hE1⟩, hb1⟩); (have HX1 := Lib.hid ((BoxAt.new w [.int .u64 (gen : Int), .int .i64 blocks, .slice a0 used.length c0] 50).below hb1)); (have HB1 := Lib.hid ((show Below w.heap.size w _ by go_grown).trans (hb1.mono (by simp)))); (have HE1 := Lib.hid hE1); (clear hE1 hb1))
      have hE1 := HE1.out
      rw [HC.out] at hE1
      have HE := Lib.hid hE1
      clear hE1
      obtain ⟨m0, m1, m2⟩ := HX1.out.three
      go_upto_region 7 with (first
        | (go_at_call 29; (refine (of_any gen blocks a0 used.length c0 _).mono ?_); (rintro e w2 ⟨rfl, hb2⟩); (have HB2 := Lib.hid (below_step HB1.out hb2)); (have HX2 := Lib.hid (HX1.out.below hb2)); (have HE2 := Lib.hid (HE.out.below hb2)); (clear hb2))
        | (go_at_call 28; (refine (refMapRight_is ⟨gen, blocks, used⟩ _ HRD.out a0 c0 _ (HU.out.below HB2.out)).mono ?_); (rintro e w3 ⟨rfl, hb3⟩); (have HB3 := Lib.hid (below_step HB2.out hb3)); (have HX3 := Lib.hid (HX2.out.below hb3)); (have HE3 := Lib.hid (HE2.out.below hb3)); (clear hb3)))
      clear m0 m1 m2
      obtain ⟨m0, m1, m2⟩ := HX3.out.three
      go_upto_region 9 with (first
        | (go_at_call 41; (refine (mapCheck_bad ⟨gen, blocks, used⟩ HR.out a0 c0 _ A (HS.out.below HB3.out) (HU.out.below HB3.out)).mono ?_); (rintro e w4 ⟨⟨t4, y4, lp4, rfl, hE4⟩, hb4⟩); (have HB4 := Lib.hid (below_step HB3.out hb4)); (have HX4 := Lib.hid (HX3.out.below hb4)); (have HE4 := Lib.hid (HE3.out.below hb4)); (have HF4 := Lib.hid hE4); (clear hb4 hE4))
        | (go_at_call 40; (refine (tells16_any (HS.out.below HB4.out) _ 1 _ HF4.out _ rfl).mono ?_); (rintro e w5 ⟨rfl, rfl⟩)))
      clear m0 m1 m2
      obtain ⟨m0, m1, m2⟩ := HX4.out.three
      go_wp2_with (first
        | (go_at_call 42; (refine (refFirst_is gen F HF.out hg _).mono ?_); (rintro e w6 ⟨rfl, rfl⟩))
        | (go_at_call 40; (refine (tells16_any (HS.out.below HB4.out) _ 1 _ HE4.out _ rfl).mono ?_); (rintro e w5 ⟨rfl, rfl⟩))
        | (go_at_call 30; (refine (mapAwake_any _ A (HS.out.below HB4.out)).mono ?_); (rintro e wb ⟨rfl, hbb⟩); (have HBb := Lib.hid (below_step HB4.out hbb)); (clear hbb)))
      go_ret
      exact ⟨rfl, HBb.out⟩
    · have HR := Lib.hid hr
      have HC := Lib.hid hc
      have HRD := Lib.hid (show decide (Bm.Right m) = true by simpa using hr)
      have hw3 := range_ways hF hrg
      clear hr hc hF hrg
      obtain ⟨gen, blocks, used⟩ := m
      simp only at *
      have h4 : (used.length : Int) ≤ 400 := by omega
      rcases hw3 with ⟨o1, o2⟩ | ⟨o1, z1⟩ | ⟨o1, o2, z1⟩ | ⟨o1, z1, z2⟩ | ⟨o1, o2, z1, z2⟩
      all_goals
        go_enter Tryd.func10, Tryd.ntmps10
        go_upto_region 5 with (go_at_call 32; (refine (mapSeal_bad ⟨gen, blocks, used⟩ a0 c0 at_ size _ A (HS.out.below (by go_grown)) (HU.out.alloc _) hg HK.out).mono ?_); (rintro e w1 ⟨⟨t1, y1, lp1, rfl, hE1⟩, hb1⟩); (have HX1 := Lib.hid ((BoxAt.new w [.int .u64 (gen : Int), .int .i64 blocks, .slice a0 used.length c0] 50).below hb1)); (have HB1 := Lib.hid ((show Below w.heap.size w _ by go_grown).trans (hb1.mono (by simp)))); (have HE1 := Lib.hid hE1); (clear hE1 hb1))
        have hE1 := HE1.out
        rw [HC.out] at hE1
        have HE := Lib.hid hE1
        clear hE1
        obtain ⟨m0, m1, m2⟩ := HX1.out.three
        go_upto_region 7 with (first
          | (go_at_call 29; (refine (of_any gen blocks a0 used.length c0 _).mono ?_); (rintro e w2 ⟨rfl, hb2⟩); (have HB2 := Lib.hid (below_step HB1.out hb2)); (have HX2 := Lib.hid (HX1.out.below hb2)); (have HE2 := Lib.hid (HE.out.below hb2)); (clear hb2))
          | (go_at_call 28; (refine (refMapRight_is ⟨gen, blocks, used⟩ _ HRD.out a0 c0 _ (HU.out.below HB2.out)).mono ?_); (rintro e w3 ⟨rfl, hb3⟩); (have HB3 := Lib.hid (below_step HB2.out hb3)); (have HX3 := Lib.hid (HX2.out.below hb3)); (have HE3 := Lib.hid (HE2.out.below hb3)); (clear hb3)))
        clear m0 m1 m2
        obtain ⟨m0, m1, m2⟩ := HX3.out.three
        go_upto_region 9 with (first
          | (go_at_call 41; (refine (mapCheck_ok ⟨gen, blocks, used⟩ HR.out a0 c0 _ A (HS.out.below HB3.out) (HU.out.below HB3.out)).mono ?_); (rintro e w4 ⟨rfl, hb4⟩); (have HB4 := Lib.hid (below_step HB3.out hb4)); (have HX4 := Lib.hid (HX3.out.below hb4)); (have HE4 := Lib.hid (HE3.out.below hb4)); (clear hb4))
          | (go_at_call 40; (refine (tells16_any (HS.out.below HB4.out) [] 0 _ (ErrIs.nil _ _ 0) _ rfl).mono ?_); (rintro e w5 ⟨rfl, rfl⟩)))
        clear m0 m1 m2
        obtain ⟨m0, m1, m2⟩ := HX4.out.three
        go_wp2_with (first
          | (go_at_call 42; (refine (refFirst_is gen F HF.out hg _).mono ?_); (rintro e w6 ⟨rfl, rfl⟩))
          | (go_at_call 40; (refine (tells16_any (HS.out.below HB4.out) _ 2 _ HE4.out _ rfl).mono ?_); (rintro e w5 ⟨rfl, rfl⟩))
          | (go_at_call 30; (refine (mapAwake_any _ A (HS.out.below HB4.out)).mono ?_); (rintro e wb ⟨rfl, hbb⟩); (have HBb := Lib.hid (below_step HB4.out hbb)); (clear hbb)))
        go_ret
        exact ⟨rfl, HBb.out⟩
end Go.Proofs.YtlobelfnjabajaaDoor
