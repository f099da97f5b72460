/- bitmaps: the walk of BitmapBack -/
import Derived.Test.YtlobelfnjabajaaDoorBitmap10
namespace Go.Proofs.YtlobelfnjabajaaDoor
open Go.RowKit
set_option linter.unusedVariables false
set_option linter.unusedSimpArgs false

theorem mapSame_is (p q : Bm.Map) (B : Bool) (hB : mapEq p q = B) (s1 s2 : Value) (w : World) (h1 : IntsAt w s1 p.used) (h2 : IntsAt w s2 q.used) :
    Calls Tryd.prog 35 #[.agg #[.int .u64 (p.gen : Int), .int .i64 p.blocks, s1], .agg #[.int .u64 (q.gen : Int), .int .i64 q.blocks, s2]] w fun e w' => e = .returned (.bool B) ∧ Below w.heap.size w w' := by subst hB; exact mapSame_any p q s1 s2 w h1 h2
/-- the other one of two places -/
theorem xor_place (x : Int) (h : x = 2 ∨ x = 3 ∨ x = 4 ∨ x = 5) : bits .xor .i64 x 1 = (if x = 2 ∨ x = 4 then x + 1 else x - 1) := by
  rcases h with rfl | rfl | rfl | rfl <;> decide
theorem first_two {gen : Nat} {F : Int} (hF : Bm.first gen = F) : F = 2 ∨ F = 4 := by subst hF; unfold Bm.first; omega
set_option maxRecDepth 100000 in
set_option maxHeartbeats 8000000 in
theorem bitmapBack_walk (m : Bm.Map) (a0 : Option Addr) (c0 : Nat) (second : Bool) (w : World) (A : Nat → Addr) (hs : Sents w A) (hu : IntsAt w (.slice a0 m.used.length c0) m.used) (hg : m.gen < 18446744073709551616) (hbd : -9223372036854775808 ≤ m.blocks ∧ m.blocks ≤ 9223372036854775807) :
    Calls Tryd.prog 11 #[.agg #[.int .u64 (m.gen : Int), .int .i64 m.blocks, .slice a0 m.used.length c0], .bool second] w fun e w' => e = .returned (.bool true) ∧ Below w.heap.size w w' := by
  have hul : m.used.length ≤ 9223372036854775807 := by
    obtain ⟨a', c', e, q1, q2, _⟩ := hu
    unfold maxLen at q2
    omega
  have HS := Lib.hid hs
  have HU := Lib.hid hu
  obtain ⟨F, hF⟩ : ∃ F, Bm.first m.gen = F := ⟨_, rfl⟩
  have HF := Lib.hid hF
  have hF2 := first_two hF
  have hFb : 2 ≤ F ∧ F ≤ 4 := by omega
  clear hs hu
  by_cases h400 : 400 < m.used.length
  · obtain ⟨gen, blocks, used⟩ := m
    simp only at *
    have h4 : 400 < (used.length : Int) := by omega
    go_enter Tryd.func11, Tryd.ntmps11
    go_wp2_with (go_at_call 30; (refine (mapAwake_any _ A (HS.out.below (by go_grown))).mono ?_); (rintro e w1 ⟨rfl, hb1⟩); (have HB1 := Lib.hid ((show Below w.heap.size w _ by go_grown).trans (hb1.mono (by simp)))); (clear hb1))
    go_ret
    exact ⟨rfl, HB1.out⟩
  obtain ⟨P, hP⟩ : ∃ P : Int, P = F + (if second = true then 1 else 0) := ⟨_, rfl⟩
  have hone : Bm.one m.gen P := by unfold Bm.one; rw [hF, hP]; cases second <;> simp
  by_cases hr : Bm.Right m
  · have hk : Bm.sealC m P ((300 : Nat) : Int) = 0 := by
      unfold Bm.sealC
      rw [if_pos hr, if_pos ⟨hone, by decide, by decide⟩]
    obtain ⟨L, hL⟩ : ∃ L, Bm.sealB m P 300 = L := ⟨_, rfl⟩
    have HK := Lib.hid hk
    have HL := Lib.hid hL
    have hs3 : 256 ≤ 300 ∧ 300 ≤ 1024 := by decide
    have HT0 := Lib.hid (show mapOpenT L P m.gen m.blocks = (m, 0, -1) by rw [← hL]; exact mapOpen_some (Bm.open_seal hr hone hs3 hg))
    obtain ⟨g2, hg2⟩ : ∃ g2 : Nat, IntKind.u64.wrap ((m.gen : Int) + 2) = (g2 : Int) := ⟨(IntKind.u64.wrap ((m.gen : Int) + 2)).toNat, by rw [IntKind.wrap_u64]; omega⟩
    have hg2l : g2 < 18446744073709551616 ∧ g2 ≠ m.gen := by rw [IntKind.wrap_u64] at hg2; omega
    obtain ⟨b2, hb2⟩ : ∃ b2 : Int, IntKind.i64.wrap (m.blocks + 1) = b2 := ⟨_, rfl⟩
    have hb2n : b2 ≠ m.blocks := by rw [IntKind.wrap_i64] at hb2; omega
    obtain ⟨P2, hP2⟩ : ∃ P2 : Int, bits .xor .i64 P 1 = P2 := ⟨_, rfl⟩
    have hP2n : P2 ≠ P ∧ 0 ≤ P2 ∧ P2 ≤ 9 := by
      rw [← hP2, xor_place P (by rw [hP]; cases second <;> simp <;> omega)]
      split <;> (rw [hP] at *; cases second <;> simp at * <;> omega)
    have HT1 := Lib.hid (show mapOpenT L P g2 m.blocks = (Bm.zero, 5, max P (-1)) by rw [← hL]; exact mapOpen_none (Bm.open_other hr hone hs3 hg (.inr (.inl hg2l.2))))
    have HT2 := Lib.hid (show mapOpenT L P m.gen b2 = (Bm.zero, 5, max P (-1)) by rw [← hL]; exact mapOpen_none (Bm.open_other hr hone hs3 hg (.inr (.inr hb2n))))
    have HT3 := Lib.hid (show mapOpenT L P2 m.gen m.blocks = (Bm.zero, 5, max P2 (-1)) by rw [← hL]; exact mapOpen_none (Bm.open_other hr hone hs3 hg (.inl hP2n.1)))
    have hlen : L.length = 300 := by rw [← hL]; exact Bm.seal_len hr (by decide)
    have HME := Lib.hid (mapEq_self m)
    have hg2l1 := hg2l.1
    have hPb : 2 ≤ P ∧ P ≤ 5 := by rw [hP]; cases second <;> simp <;> omega
    have HP := Lib.hid hP
    clear hk hL hr hone hs3 hb2n hP2n hF hF2 hg2l hlen hbd hP
    obtain ⟨gen, blocks, used⟩ := m
    simp only at *
    have h4 : (used.length : Int) ≤ 400 := by omega
    have HXP := Lib.hid hP2
    cases second
    · obtain rfl : P = F := by have := HP.out; simpa using this
      clear HP
      go_enter Tryd.func11, Tryd.ntmps11
      go_upto_region 9 with (first
        | (go_at_call 42; (refine (refFirst_is gen P HF.out hg _).mono ?_); (rintro e w0 ⟨rfl, rfl⟩))
        | (go_at_call 32; (refine (mapSeal_ok ⟨gen, blocks, used⟩ P 300 L HL.out a0 c0 _ A (HS.out.below (by go_grown)) (HU.out.alloc _) hg HK.out).mono ?_); (rintro e w1 ⟨⟨a1, c1, rfl, ho1⟩, hb1⟩); (have HX1 := Lib.hid ((BoxAt.new w [.int .u64 (gen : Int), .int .i64 blocks, .slice a0 used.length c0] 50).below hb1)); (have HB1 := Lib.hid ((show Below w.heap.size w _ by go_grown).trans (hb1.mono (by simp)))); (have HO1 := Lib.hid ho1.bytes); (clear ho1 hb1)))
      have w1n : ∃ W1, W1 = w1 := ⟨_, rfl⟩
      obtain ⟨W1, rfl⟩ := w1n
      obtain ⟨m0, m1, m2⟩ := HX1.out.three
      go_upto_region 10 with (go_at_call 44; (refine (mapOpen_is L P gen blocks ⟨gen, blocks, used⟩ 0 (-1) HT0.out _ c1 _ A (HS.out.below HB1.out) HO1.out hg).mono ?_); (rintro e w2 ⟨⟨a2, c2, ev2, lp2, rfl, ho2, hE2, hp2, hl2⟩, hb2⟩); (obtain ⟨rfl, rfl⟩ := hE2.isNil))
      refine wp_name fun W2 hW2 => ?_
      have hbW : Below W1.heap.size W1 W2 := by rw [hW2]; exact hb2.alloc hb2.size _
      have HX2 := Lib.hid (HX1.out.below hbW)
      have HB2 := Lib.hid (below_step HB1.out hbW)
      have HO2 := Lib.hid (HO1.out.below hbW)
      have HN2 := Lib.hid (show BoxAt W2 w2.heap.size [.int .u64 (gen : Int), .int .i64 blocks, .slice a2 used.length c2] by rw [hW2]; exact BoxAt.new w2 [_, _, _] _)
      have HI2 := Lib.hid (show IntsAt W2 (.slice a2 used.length c2) used by rw [hW2]; exact (ho2.alloc _).ints)
      clear hW2 hbW hb2 ho2 hE2 m0 m1 m2
      obtain ⟨m0, m1, m2⟩ := HX2.out.three
      go_upto_region 11 with (go_at_call 44; (refine (mapOpen_is L P g2 blocks Bm.zero 5 (max P (-1)) HT1.out _ c1 _ A (HS.out.below HB2.out) HO2.out hg2l1).mono ?_); (rintro e w3 ⟨⟨a3, c3, ev3, lp3, rfl, ho3, hE3, hp3, hl3⟩, hb3⟩); (obtain ⟨t3, x3, rfl⟩ := hE3.iface (by decide)))
      refine wp_name fun W3 hW3 => ?_
      have hbW : Below W2.heap.size W2 W3 := by rw [hW3]; exact hb3.alloc hb3.size _
      have HX3 := Lib.hid (HX2.out.below hbW)
      have HB3 := Lib.hid (below_step HB2.out hbW)
      have HO3 := Lib.hid (HO2.out.below hbW)
      have HN3 := Lib.hid (HN2.out.below hbW)
      have HI3 := Lib.hid (HI2.out.below hbW)
      have HE33 := Lib.hid (show ErrIs W3 A W2.heap.size lp3 5 (.iface t3 x3) by rw [hW3]; exact hE3.below ((Below.refl _ _).alloc (Nat.le_refl _) _))
      clear hW3 hbW hb3 ho3 hE3 m0 m1 m2
      obtain ⟨m0, m1, m2⟩ := HX3.out.three
      go_upto_region 12 with (go_at_call 44; (refine (mapOpen_is L P gen b2 Bm.zero 5 (max P (-1)) HT2.out _ c1 _ A (HS.out.below HB3.out) HO3.out hg).mono ?_); (rintro e w4 ⟨⟨a4, c4, ev4, lp4, rfl, ho4, hE4, hp4, hl4⟩, hb4⟩); (obtain ⟨t4, x4, rfl⟩ := hE4.iface (by decide)))
      refine wp_name fun W4 hW4 => ?_
      have hbW : Below W3.heap.size W3 W4 := by rw [hW4]; exact hb4.alloc hb4.size _
      have HX4 := Lib.hid (HX3.out.below hbW)
      have HB4 := Lib.hid (below_step HB3.out hbW)
      have HO4 := Lib.hid (HO3.out.below hbW)
      have HN4 := Lib.hid (HN3.out.below hbW)
      have HI4 := Lib.hid (HI3.out.below hbW)
      have HE34 := Lib.hid (HE33.out.below hbW)
      have HE44 := Lib.hid (show ErrIs W4 A W3.heap.size lp4 5 (.iface t4 x4) by rw [hW4]; exact hE4.below ((Below.refl _ _).alloc (Nat.le_refl _) _))
      clear hW4 hbW hb4 ho4 hE4 m0 m1 m2
      obtain ⟨m0, m1, m2⟩ := HX4.out.three
      go_upto_region 13 with (go_at_call 44; (refine (mapOpen_is L P2 gen blocks Bm.zero 5 (max P2 (-1)) HT3.out _ c1 _ A (HS.out.below HB4.out) HO4.out hg).mono ?_); (rintro e w5 ⟨⟨a5, c5, ev5, lp5, rfl, ho5, hE5, hp5, hl5⟩, hb5⟩); (obtain ⟨t5, x5, rfl⟩ := hE5.iface (by decide)))
      refine wp_name fun W5 hW5 => ?_
      have hbW : Below W4.heap.size W4 W5 := by rw [hW5]; exact hb5.alloc hb5.size _
      have HX5 := Lib.hid (HX4.out.below hbW)
      have HB5 := Lib.hid (below_step HB4.out hbW)
      have HO5 := Lib.hid (HO4.out.below hbW)
      have HN5 := Lib.hid (HN4.out.below hbW)
      have HI5 := Lib.hid (HI4.out.below hbW)
      have HE35 := Lib.hid (HE34.out.below hbW)
      have HE45 := Lib.hid (HE44.out.below hbW)
      have HE55 := Lib.hid (show ErrIs W5 A W4.heap.size lp5 5 (.iface t5 x5) by rw [hW5]; exact hE5.below ((Below.refl _ _).alloc (Nat.le_refl _) _))
      clear hW5 hbW hb5 ho5 hE5 m0 m1 m2
      obtain ⟨m0, m1, m2⟩ := HX5.out.three
      obtain ⟨n0, n1, n2⟩ := HN5.out.three
      go_wp2_with (first
        | (go_at_call 35; (refine (mapSame_is ⟨gen, blocks, used⟩ ⟨gen, blocks, used⟩ true HME.out _ _ _ HI5.out (HU.out.below HB5.out)).mono ?_); (rintro e w6 ⟨rfl, hb6⟩); (have HB6 := Lib.hid (below_step HB5.out hb6)); (have HE36 := Lib.hid (HE35.out.below hb6)); (have HE46 := Lib.hid (HE45.out.below hb6)); (have HE56 := Lib.hid (HE55.out.below hb6)); (clear hb6))
        | (go_at_call 40; (refine (tells16_any (HS.out.below HB6.out) _ 5 _ (by first | exact HE36.out | exact HE46.out | exact HE56.out) _ rfl).mono ?_); (rintro e w7 ⟨rfl, rfl⟩))
        | (go_at_call 30; (refine (mapAwake_any _ A (HS.out.below HB6.out)).mono ?_); (rintro e wb ⟨rfl, hbb⟩); (have HBb := Lib.hid (below_step HB6.out hbb)); (clear hbb)))
      go_ret
      exact ⟨rfl, HBb.out⟩
    · have hPe : F + 1 = P := by have := HP.out; simp at this; omega
      clear HP
      go_enter Tryd.func11, Tryd.ntmps11
      go_upto_region 9 with (first
        | (go_at_call 42; (refine (refFirst_is gen F HF.out hg _).mono ?_); (rintro e w0 ⟨rfl, rfl⟩))
        | (go_at_call 32; (refine (mapSeal_ok ⟨gen, blocks, used⟩ P 300 L HL.out a0 c0 _ A (HS.out.below (by go_grown)) (HU.out.alloc _) hg HK.out).mono ?_); (rintro e w1 ⟨⟨a1, c1, rfl, ho1⟩, hb1⟩); (have HX1 := Lib.hid ((BoxAt.new w [.int .u64 (gen : Int), .int .i64 blocks, .slice a0 used.length c0] 50).below hb1)); (have HB1 := Lib.hid ((show Below w.heap.size w _ by go_grown).trans (hb1.mono (by simp)))); (have HO1 := Lib.hid ho1.bytes); (clear ho1 hb1)))
      have w1n : ∃ W1, W1 = w1 := ⟨_, rfl⟩
      obtain ⟨W1, rfl⟩ := w1n
      obtain ⟨m0, m1, m2⟩ := HX1.out.three
      go_upto_region 10 with (go_at_call 44; (refine (mapOpen_is L P gen blocks ⟨gen, blocks, used⟩ 0 (-1) HT0.out _ c1 _ A (HS.out.below HB1.out) HO1.out hg).mono ?_); (rintro e w2 ⟨⟨a2, c2, ev2, lp2, rfl, ho2, hE2, hp2, hl2⟩, hb2⟩); (obtain ⟨rfl, rfl⟩ := hE2.isNil))
      refine wp_name fun W2 hW2 => ?_
      have hbW : Below W1.heap.size W1 W2 := by rw [hW2]; exact hb2.alloc hb2.size _
      have HX2 := Lib.hid (HX1.out.below hbW)
      have HB2 := Lib.hid (below_step HB1.out hbW)
      have HO2 := Lib.hid (HO1.out.below hbW)
      have HN2 := Lib.hid (show BoxAt W2 w2.heap.size [.int .u64 (gen : Int), .int .i64 blocks, .slice a2 used.length c2] by rw [hW2]; exact BoxAt.new w2 [_, _, _] _)
      have HI2 := Lib.hid (show IntsAt W2 (.slice a2 used.length c2) used by rw [hW2]; exact (ho2.alloc _).ints)
      clear hW2 hbW hb2 ho2 hE2 m0 m1 m2
      obtain ⟨m0, m1, m2⟩ := HX2.out.three
      go_upto_region 11 with (go_at_call 44; (refine (mapOpen_is L P g2 blocks Bm.zero 5 (max P (-1)) HT1.out _ c1 _ A (HS.out.below HB2.out) HO2.out hg2l1).mono ?_); (rintro e w3 ⟨⟨a3, c3, ev3, lp3, rfl, ho3, hE3, hp3, hl3⟩, hb3⟩); (obtain ⟨t3, x3, rfl⟩ := hE3.iface (by decide)))
      refine wp_name fun W3 hW3 => ?_
      have hbW : Below W2.heap.size W2 W3 := by rw [hW3]; exact hb3.alloc hb3.size _
      have HX3 := Lib.hid (HX2.out.below hbW)
      have HB3 := Lib.hid (below_step HB2.out hbW)
      have HO3 := Lib.hid (HO2.out.below hbW)
      have HN3 := Lib.hid (HN2.out.below hbW)
      have HI3 := Lib.hid (HI2.out.below hbW)
      have HE33 := Lib.hid (show ErrIs W3 A W2.heap.size lp3 5 (.iface t3 x3) by rw [hW3]; exact hE3.below ((Below.refl _ _).alloc (Nat.le_refl _) _))
      clear hW3 hbW hb3 ho3 hE3 m0 m1 m2
      obtain ⟨m0, m1, m2⟩ := HX3.out.three
      go_upto_region 12 with (go_at_call 44; (refine (mapOpen_is L P gen b2 Bm.zero 5 (max P (-1)) HT2.out _ c1 _ A (HS.out.below HB3.out) HO3.out hg).mono ?_); (rintro e w4 ⟨⟨a4, c4, ev4, lp4, rfl, ho4, hE4, hp4, hl4⟩, hb4⟩); (obtain ⟨t4, x4, rfl⟩ := hE4.iface (by decide)))
      refine wp_name fun W4 hW4 => ?_
      have hbW : Below W3.heap.size W3 W4 := by rw [hW4]; exact hb4.alloc hb4.size _
      have HX4 := Lib.hid (HX3.out.below hbW)
      have HB4 := Lib.hid (below_step HB3.out hbW)
      have HO4 := Lib.hid (HO3.out.below hbW)
      have HN4 := Lib.hid (HN3.out.below hbW)
      have HI4 := Lib.hid (HI3.out.below hbW)
      have HE34 := Lib.hid (HE33.out.below hbW)
      have HE44 := Lib.hid (show ErrIs W4 A W3.heap.size lp4 5 (.iface t4 x4) by rw [hW4]; exact hE4.below ((Below.refl _ _).alloc (Nat.le_refl _) _))
      clear hW4 hbW hb4 ho4 hE4 m0 m1 m2
      obtain ⟨m0, m1, m2⟩ := HX4.out.three
      go_upto_region 13 with (go_at_call 44; (refine (mapOpen_is L P2 gen blocks Bm.zero 5 (max P2 (-1)) HT3.out _ c1 _ A (HS.out.below HB4.out) HO4.out hg).mono ?_); (rintro e w5 ⟨⟨a5, c5, ev5, lp5, rfl, ho5, hE5, hp5, hl5⟩, hb5⟩); (obtain ⟨t5, x5, rfl⟩ := hE5.iface (by decide)))
      refine wp_name fun W5 hW5 => ?_
      have hbW : Below W4.heap.size W4 W5 := by rw [hW5]; exact hb5.alloc hb5.size _
      have HX5 := Lib.hid (HX4.out.below hbW)
      have HB5 := Lib.hid (below_step HB4.out hbW)
      have HO5 := Lib.hid (HO4.out.below hbW)
      have HN5 := Lib.hid (HN4.out.below hbW)
      have HI5 := Lib.hid (HI4.out.below hbW)
      have HE35 := Lib.hid (HE34.out.below hbW)
      have HE45 := Lib.hid (HE44.out.below hbW)
      have HE55 := Lib.hid (show ErrIs W5 A W4.heap.size lp5 5 (.iface t5 x5) by rw [hW5]; exact hE5.below ((Below.refl _ _).alloc (Nat.le_refl _) _))
      clear hW5 hbW hb5 ho5 hE5 m0 m1 m2
      obtain ⟨m0, m1, m2⟩ := HX5.out.three
      obtain ⟨n0, n1, n2⟩ := HN5.out.three
      go_wp2_with (first
        | (go_at_call 35; (refine (mapSame_is ⟨gen, blocks, used⟩ ⟨gen, blocks, used⟩ true HME.out _ _ _ HI5.out (HU.out.below HB5.out)).mono ?_); (rintro e w6 ⟨rfl, hb6⟩); (have HB6 := Lib.hid (below_step HB5.out hb6)); (have HE36 := Lib.hid (HE35.out.below hb6)); (have HE46 := Lib.hid (HE45.out.below hb6)); (have HE56 := Lib.hid (HE55.out.below hb6)); (clear hb6))
        | (go_at_call 40; (refine (tells16_any (HS.out.below HB6.out) _ 5 _ (by first | exact HE36.out | exact HE46.out | exact HE56.out) _ rfl).mono ?_); (rintro e w7 ⟨rfl, rfl⟩))
        | (go_at_call 30; (refine (mapAwake_any _ A (HS.out.below HB6.out)).mono ?_); (rintro e wb ⟨rfl, hbb⟩); (have HBb := Lib.hid (below_step HB6.out hbb)); (clear hbb)))
      go_ret
      exact ⟨rfl, HBb.out⟩
  · have hc : Bm.sealC m P ((300 : Nat) : Int) = 1 := by unfold Bm.sealC; rw [if_neg hr]
    have HC := Lib.hid hc
    have HK := Lib.hid (show Bm.sealC m P ((300 : Nat) : Int) ≠ 0 by rw [hc]; decide)
    have HP := Lib.hid hP
    clear hc hr hone hP hF hF2 hbd
    obtain ⟨gen, blocks, used⟩ := m
    simp only at *
    have h4 : (used.length : Int) ≤ 400 := by omega
    cases second
    · obtain rfl : P = F := by have := HP.out; simpa using this
      clear HP
      go_enter Tryd.func11, Tryd.ntmps11
      go_wp2_with (first
        | (go_at_call 42; (refine (refFirst_is gen P HF.out hg _).mono ?_); (rintro e w0 ⟨rfl, rfl⟩))
        | (go_at_call 32; (refine (mapSeal_bad ⟨gen, blocks, used⟩ a0 c0 P (300 : Nat) _ A (HS.out.below (by go_grown)) (HU.out.alloc _) hg HK.out).mono ?_); (rintro e w1 ⟨⟨t1, y1, lp1, rfl, hE1⟩, hb1⟩); (have HB1 := Lib.hid ((show Below w.heap.size w _ by go_grown).trans (hb1.mono (by simp)))); (rw [HC.out] at hE1); (have HE1 := Lib.hid hE1); (clear hE1 hb1))
        | (go_at_call 40; (refine (tells16_any (HS.out.below HB1.out) _ 1 _ HE1.out _ rfl).mono ?_); (rintro e w7 ⟨rfl, rfl⟩))
        | (go_at_call 30; (refine (mapAwake_any _ A (HS.out.below HB1.out)).mono ?_); (rintro e wb ⟨rfl, hbb⟩); (have HBb := Lib.hid (below_step HB1.out hbb)); (clear hbb)))
      go_ret
      exact ⟨rfl, HBb.out⟩
    · have hPe : F + 1 = P := by have := HP.out; simp at this; omega
      clear HP
      go_enter Tryd.func11, Tryd.ntmps11
      go_wp2_with (first
        | (go_at_call 42; (refine (refFirst_is gen F HF.out hg _).mono ?_); (rintro e w0 ⟨rfl, rfl⟩))
        | (go_at_call 32; (refine (mapSeal_bad ⟨gen, blocks, used⟩ a0 c0 P (300 : Nat) _ A (HS.out.below (by go_grown)) (HU.out.alloc _) hg HK.out).mono ?_); (rintro e w1 ⟨⟨t1, y1, lp1, rfl, hE1⟩, hb1⟩); (have HB1 := Lib.hid ((show Below w.heap.size w _ by go_grown).trans (hb1.mono (by simp)))); (rw [HC.out] at hE1); (have HE1 := Lib.hid hE1); (clear hE1 hb1))
        | (go_at_call 40; (refine (tells16_any (HS.out.below HB1.out) _ 1 _ HE1.out _ rfl).mono ?_); (rintro e w7 ⟨rfl, rfl⟩))
        | (go_at_call 30; (refine (mapAwake_any _ A (HS.out.below HB1.out)).mono ?_); (rintro e wb ⟨rfl, hbb⟩); (have HBb := Lib.hid (below_step HB1.out hbb)); (clear hbb)))
      go_ret
      exact ⟨rfl, HBb.out⟩
end Go.Proofs.YtlobelfnjabajaaDoor
