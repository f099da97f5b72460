/- superblocks: the walks of SuperBack, SuperOpens, SuperChooses -/
import Derived.Test.YtaofhdoieffhhaaDoorSuperLaws
namespace Go.Proofs.YtaofhdoieffhhaaDoor
open Go.RowKit
set_option linter.unusedVariables false
set_option linter.unusedSimpArgs false

set_option maxRecDepth 100000 in
set_option maxHeartbeats 4000000 in
theorem superBack_walk (s : Su.Sup) (at_ : Int) (w : World) (A : Nat → Addr) (hs : Sents w A) (hg : s.gen < 18446744073709551616) :
    Calls Tryd.prog 9 #[.agg #[.int .u64 (s.gen : Int), .int .i64 s.blocks, .int .i64 s.size, .int .i64 s.root, .int .i64 s.keys], .int .i64 at_] w fun e w' => e = .returned (.bool true) ∧ Below w.heap.size w w' := by
  have HS := Lib.hid hs
  clear hs
  by_cases hc : supSealC s at_ = 0
  · have hr : Su.right s = true := by
      cases h : Su.right s with
      | true => rfl
      | false => unfold supSealC at hc; rw [h] at hc; simp at hc
    have hat : at_ = 0 ∨ at_ = 1 := by
      unfold supSealC at hc
      rw [if_pos hr] at hc
      by_cases h : at_ = 0 ∨ at_ = 1
      · exact h
      · rw [if_neg h] at hc; cases hc
    obtain ⟨L, hL⟩ : ∃ L, Su.supSeal s at_ = L := ⟨_, rfl⟩
    have ho1 : Su.supOpen L at_ = some s := by rw [← hL]; exact Su.supOpen_seal hr (by omega) hg
    have ho2 : ∀ b, at_ ≠ b → Su.supOpen L b = none := fun b hb => by rw [← hL]; exact Su.supOpen_at hr (by omega) hg hb
    have HR := Lib.hid hr
    have HL := Lib.hid hL
    have HO1 := Lib.hid ho1
    have HO2 := Lib.hid ho2
    clear hr hL ho1 ho2 hc
    rcases hat with rfl | rfl
    · go_enter Tryd.func9, Tryd.ntmps9
      go_upto_region 5 with (first
        | (go_at_call 28; (refine (superSeal_ok s 0 L HL.out _ A (HS.out.below (by go_grown)) HR.out (by decide) hg).mono ?_); (rintro e w1 ⟨⟨a1, c1, rfl, hx1⟩, hb1⟩); (have HX1 := Lib.hid ((BoxAt.new w [.int .u64 (s.gen : Int), .int .i64 s.blocks, .int .i64 s.size, .int .i64 s.root, .int .i64 s.keys] 48).below hb1)); (have HN1 := Lib.hid hx1.bytes); (have HB1 := Lib.hid ((show Below w.heap.size w _ by go_grown).trans (hb1.mono (by simp)))); (clear hx1 hb1))
        | (go_at_call 34; (refine (superOpen_some a1 c1 L 0 s (by decide) HO1.out _ A (HS.out.below HB1.out) HN1.out).mono ?_); (rintro e w2 ⟨rfl, hb2⟩); (have HX2 := Lib.hid (HX1.out.below hb2)); (have HN2 := Lib.hid (HN1.out.below hb2)); (have HB2 := Lib.hid (below_step HB1.out hb2)); (clear hb2)))
      refine wp_name fun W hW => ?_
      have HX := Lib.hid (show BoxAt W w.heap.size [.int .u64 (s.gen : Int), .int .i64 s.blocks, .int .i64 s.size, .int .i64 s.root, .int .i64 s.keys] by rw [hW]; exact HX2.out.alloc _)
      have HY := Lib.hid (show BoxAt W w2.heap.size [.int .u64 (s.gen : Int), .int .i64 s.blocks, .int .i64 s.size, .int .i64 s.root, .int .i64 s.keys] by rw [hW]; exact BoxAt.new w2 [_, _, _, _, _] _)
      have HN := Lib.hid (show BytesAt W (.slice a1 L.length c1) L by rw [hW]; exact HN2.out.alloc _)
      have HB := Lib.hid (show Below w.heap.size w W by rw [hW]; exact HB2.out.alloc HB2.out.size _)
      clear hW
      go_upto_region 6 with (go_at_call 34; (refine (superOpen_none a1 c1 L 1 (by decide) (HO2.out 1 (by decide)) _ A (HS.out.below HB.out) HN.out).mono ?_); (rintro e w3 ⟨⟨t3, x3, lp3, rfl, hE3, -, -⟩, hb3⟩); (have HX3 := Lib.hid (HX.out.below hb3)); (have HY3 := Lib.hid (HY.out.below hb3)); (have HE3 := Lib.hid hE3); (have HB3 := Lib.hid (below_step HB.out hb3)); (clear hb3 hE3))
      refine wp_name fun V hV => ?_
      have HXV := Lib.hid (show BoxAt V w.heap.size [.int .u64 (s.gen : Int), .int .i64 s.blocks, .int .i64 s.size, .int .i64 s.root, .int .i64 s.keys] by rw [hV]; exact HX3.out.alloc _)
      have HYV := Lib.hid (show BoxAt V w2.heap.size [.int .u64 (s.gen : Int), .int .i64 s.blocks, .int .i64 s.size, .int .i64 s.root, .int .i64 s.keys] by rw [hV]; exact HY3.out.alloc _)
      have HEV := Lib.hid (show ErrIs V A W.heap.size lp3 5 (.iface t3 x3) by rw [hV]; exact HE3.out.below' ((Below.refl _ _).alloc (Nat.le_refl _) _))
      have HBV := Lib.hid (show Below w.heap.size w V by rw [hV]; exact HB3.out.alloc HB3.out.size _)
      clear hV
      obtain ⟨m0, m1, m2, m3, m4⟩ := HXV.out.five
      obtain ⟨n0, n1, n2, n3, n4⟩ := HYV.out.five
      go_wp2_with (first
        | (go_at_call 31; (refine (tells06_any (HS.out.below HBV.out) lp3 5 _ HEV.out _ rfl).mono ?_); (rintro e w9 ⟨rfl, rfl⟩))
        | (go_at_call 26; (refine (superAwake_any _ A (HS.out.below HBV.out)).mono ?_); (rintro e w8 ⟨rfl, hb8⟩); (have HB8 := Lib.hid (below_step HBV.out hb8)); (clear hb8)))
      go_ret
      exact ⟨rfl, HB8.out⟩
    · go_enter Tryd.func9, Tryd.ntmps9
      go_upto_region 5 with (first
        | (go_at_call 28; (refine (superSeal_ok s 1 L HL.out _ A (HS.out.below (by go_grown)) HR.out (by decide) hg).mono ?_); (rintro e w1 ⟨⟨a1, c1, rfl, hx1⟩, hb1⟩); (have HX1 := Lib.hid ((BoxAt.new w [.int .u64 (s.gen : Int), .int .i64 s.blocks, .int .i64 s.size, .int .i64 s.root, .int .i64 s.keys] 48).below hb1)); (have HN1 := Lib.hid hx1.bytes); (have HB1 := Lib.hid ((show Below w.heap.size w _ by go_grown).trans (hb1.mono (by simp)))); (clear hx1 hb1))
        | (go_at_call 34; (refine (superOpen_some a1 c1 L 1 s (by decide) HO1.out _ A (HS.out.below HB1.out) HN1.out).mono ?_); (rintro e w2 ⟨rfl, hb2⟩); (have HX2 := Lib.hid (HX1.out.below hb2)); (have HN2 := Lib.hid (HN1.out.below hb2)); (have HB2 := Lib.hid (below_step HB1.out hb2)); (clear hb2)))
      refine wp_name fun W hW => ?_
      have HX := Lib.hid (show BoxAt W w.heap.size [.int .u64 (s.gen : Int), .int .i64 s.blocks, .int .i64 s.size, .int .i64 s.root, .int .i64 s.keys] by rw [hW]; exact HX2.out.alloc _)
      have HY := Lib.hid (show BoxAt W w2.heap.size [.int .u64 (s.gen : Int), .int .i64 s.blocks, .int .i64 s.size, .int .i64 s.root, .int .i64 s.keys] by rw [hW]; exact BoxAt.new w2 [_, _, _, _, _] _)
      have HN := Lib.hid (show BytesAt W (.slice a1 L.length c1) L by rw [hW]; exact HN2.out.alloc _)
      have HB := Lib.hid (show Below w.heap.size w W by rw [hW]; exact HB2.out.alloc HB2.out.size _)
      clear hW
      go_upto_region 6 with (go_at_call 34; (refine (superOpen_none a1 c1 L 0 (by decide) (HO2.out 0 (by decide)) _ A (HS.out.below HB.out) HN.out).mono ?_); (rintro e w3 ⟨⟨t3, x3, lp3, rfl, hE3, -, -⟩, hb3⟩); (have HX3 := Lib.hid (HX.out.below hb3)); (have HY3 := Lib.hid (HY.out.below hb3)); (have HE3 := Lib.hid hE3); (have HB3 := Lib.hid (below_step HB.out hb3)); (clear hb3 hE3))
      refine wp_name fun V hV => ?_
      have HXV := Lib.hid (show BoxAt V w.heap.size [.int .u64 (s.gen : Int), .int .i64 s.blocks, .int .i64 s.size, .int .i64 s.root, .int .i64 s.keys] by rw [hV]; exact HX3.out.alloc _)
      have HYV := Lib.hid (show BoxAt V w2.heap.size [.int .u64 (s.gen : Int), .int .i64 s.blocks, .int .i64 s.size, .int .i64 s.root, .int .i64 s.keys] by rw [hV]; exact HY3.out.alloc _)
      have HEV := Lib.hid (show ErrIs V A W.heap.size lp3 5 (.iface t3 x3) by rw [hV]; exact HE3.out.below' ((Below.refl _ _).alloc (Nat.le_refl _) _))
      have HBV := Lib.hid (show Below w.heap.size w V by rw [hV]; exact HB3.out.alloc HB3.out.size _)
      clear hV
      obtain ⟨m0, m1, m2, m3, m4⟩ := HXV.out.five
      obtain ⟨n0, n1, n2, n3, n4⟩ := HYV.out.five
      go_wp2_with (first
        | (go_at_call 31; (refine (tells06_any (HS.out.below HBV.out) lp3 5 _ HEV.out _ rfl).mono ?_); (rintro e w9 ⟨rfl, rfl⟩))
        | (go_at_call 26; (refine (superAwake_any _ A (HS.out.below HBV.out)).mono ?_); (rintro e w8 ⟨rfl, hb8⟩); (have HB8 := Lib.hid (below_step HBV.out hb8)); (clear hb8)))
      go_ret
      exact ⟨rfl, HB8.out⟩
  · have HC := Lib.hid hc
    clear hc
    go_enter Tryd.func9, Tryd.ntmps9
    go_wp2_with (first
      | (go_at_call 28; (refine (superSeal_bad s at_ _ A (HS.out.below (by go_grown)) HC.out).mono ?_); (rintro e w1 ⟨⟨t1, x1, l1, rfl, hE1⟩, hb1⟩); (have HB1 := Lib.hid ((show Below w.heap.size w _ by go_grown).trans (hb1.mono (by simp)))); (clear hE1 hb1))
      | (go_at_call 26; (refine (superAwake_any _ A (HS.out.below HB1.out)).mono ?_); (rintro e w8 ⟨rfl, hb8⟩); (have HB8 := Lib.hid (below_step HB1.out hb8)); (clear hb8)))
    go_ret
    exact ⟨rfl, HB8.out⟩

theorem superOpen_range (a : Option Addr) (c : Nat) (l : List UInt8) (at_ : Int) (hT : supOpenT l at_ = (Su.zero, 2, -1)) (w : World) (A : Nat → Addr) {S : Nat → Prop} [Has S 1] [Has S 2] [Has S 5] (hs : SentsOn S w A) (hb : BytesAt w (.slice a l.length c) l) :
    Calls Tryd.prog 34 #[.slice a l.length c, .int .i64 at_] w fun e w' => (∃ t x lp, e = .returned (.tuple #[.agg #[.int .u64 0, .int .i64 0, .int .i64 0, .int .i64 0, .int .i64 0], .iface t x]) ∧ ErrIs w' A w.heap.size lp 2 (.iface t x)) ∧ Below w.heap.size w w' := by
  refine (superOpen_any a c l at_ w A hs hb).mono fun e w' ⟨⟨ev, lp, he, hE, hp, hl⟩, hb⟩ => ⟨?_, hb⟩
  rw [hT] at he hE
  obtain ⟨t, x, rfl⟩ := hE.iface (show (2 : Nat) ≠ 0 by decide)
  exact ⟨t, x, lp, he, hE⟩
set_option maxRecDepth 100000 in
set_option maxHeartbeats 4000000 in
theorem superOpens_walk (v : Value) (l : List UInt8) (at_ : Int) (w : World) (A : Nat → Addr) (hs : Sents w A) (hg : w.cell? ⟨9, 0, none⟩ = some errorTypeV) (hb : BytesAt w v l) :
    Calls Tryd.prog 12 #[v, .int .i64 at_] w fun e w' => e = .returned (.bool true) ∧ Below w.heap.size w w' := by
  have HS := Lib.hid hs
  have HB := Lib.hid hb
  have HG := Lib.hid hg
  have hlg : 9 < w.heap.size := World.block_lt_of_cell? w _ hg
  obtain ⟨a, c, rfl, -, -, -⟩ := hb
  clear hs hg
  by_cases hat : at_ = 0 ∨ at_ = 1
  · have hat2 : (at_ != 0) = false ∨ ((at_ != 0) = true ∧ (at_ != 1) = false) := by
      rcases hat with rfl | rfl
      · exact .inl rfl
      · exact .inr ⟨rfl, rfl⟩
    have HAT := Lib.hid hat
    clear hat
    cases ho : Su.supOpen l at_ with
    | some s =>
      have HO := Lib.hid ho
      clear ho
      rcases hat2 with h0 | ⟨h0, h1⟩
      all_goals
        go_enter Tryd.func12, Tryd.ntmps12
        go_upto_region 2 with (go_at_call 34; (refine (superOpen_some a c l at_ s HAT.out HO.out _ A HS.out HB.out).mono ?_); (rintro e w1 ⟨rfl, hb1⟩); (have HB1 := Lib.hid hb1); (clear hb1))
        refine wp_name fun W hW => ?_
        have HY := Lib.hid (show BoxAt W w1.heap.size [.int .u64 (s.gen : Int), .int .i64 s.blocks, .int .i64 s.size, .int .i64 s.root, .int .i64 s.keys] by rw [hW]; exact BoxAt.new w1 [_, _, _, _, _] _)
        have HBW := Lib.hid (show Below w.heap.size w W by rw [hW]; exact HB1.out.alloc HB1.out.size _)
        clear hW
        go_upto_region 5 with (go_at_call 39; (refine (refSupOpen_some a c l at_ s HO.out _ (HB.out.below HBW.out)).mono ?_); (rintro e w2 ⟨rfl, hb2⟩); (have HY2 := Lib.hid (HY.out.below hb2)); (have HB2 := Lib.hid (below_step HBW.out hb2)); (clear hb2))
        refine wp_name fun V hV => ?_
        have HYV := Lib.hid (show BoxAt V w1.heap.size [.int .u64 (s.gen : Int), .int .i64 s.blocks, .int .i64 s.size, .int .i64 s.root, .int .i64 s.keys] by rw [hV]; exact HY2.out.alloc _)
        have HZV := Lib.hid (show BoxAt V w2.heap.size [.int .u64 (s.gen : Int), .int .i64 s.blocks, .int .i64 s.size, .int .i64 s.root, .int .i64 s.keys] by rw [hV]; exact BoxAt.new w2 [_, _, _, _, _] _)
        have HBV := Lib.hid (show Below w.heap.size w V by rw [hV]; exact HB2.out.alloc HB2.out.size _)
        clear hV
        obtain ⟨m0, m1, m2, m3, m4⟩ := HYV.out.five
        obtain ⟨n0, n1, n2, n3, n4⟩ := HZV.out.five
        go_wp2_with (go_at_call 26; (refine (superAwake_any _ A (HS.out.below HBV.out)).mono ?_); (rintro e w8 ⟨rfl, hb8⟩); (have HB8 := Lib.hid (below_step HBV.out hb8)); (clear hb8))
        go_ret
        exact ⟨rfl, HB8.out⟩
    | none =>
      have HO := Lib.hid ho
      clear ho
      rcases hat2 with h0 | ⟨h0, h1⟩
      all_goals
        go_enter Tryd.func12, Tryd.ntmps12
        go_upto_region 2 with (go_at_call 34; (refine (superOpen_none a c l at_ HAT.out HO.out _ A HS.out HB.out).mono ?_); (rintro e w1 ⟨⟨t1, x1, lp, rfl, hE1, hp1, hl1⟩, hb1⟩); (have HE1 := Lib.hid hE1); (have HP := Lib.hid hp1); (have HB1 := Lib.hid hb1); (clear hb1 hE1 hp1))
        refine wp_name fun W hW => ?_
        have HY := Lib.hid (show BoxAt W w1.heap.size [.int .u64 0, .int .i64 0, .int .i64 0, .int .i64 0, .int .i64 0] by rw [hW]; exact BoxAt.new w1 [_, _, _, _, _] _)
        have HBW := Lib.hid (show Below w.heap.size w W by rw [hW]; exact HB1.out.alloc HB1.out.size _)
        have HEW := Lib.hid (show ErrIs W A w.heap.size lp 5 (.iface t1 x1) by rw [hW]; exact HE1.out.below' ((Below.refl _ _).alloc (Nat.le_refl _) _))
        clear hW
        go_upto_region 5 with (go_at_call 39; (refine (refSupOpen_none a c l at_ HO.out _ (HB.out.below HBW.out)).mono ?_); (rintro e w2 ⟨rfl, hb2⟩); (have HY2 := Lib.hid (HY.out.below hb2)); (have HE2 := Lib.hid (HEW.out.below' hb2)); (have HB2 := Lib.hid (below_step HBW.out hb2)); (clear hb2))
        refine wp_name fun V hV => ?_
        have HYV := Lib.hid (show BoxAt V w1.heap.size [.int .u64 0, .int .i64 0, .int .i64 0, .int .i64 0, .int .i64 0] by rw [hV]; exact HY2.out.alloc _)
        have HEV := Lib.hid (show ErrIs V A w.heap.size lp 5 (.iface t1 x1) by rw [hV]; exact HE2.out.below' ((Below.refl _ _).alloc (Nat.le_refl _) _))
        have HBV := Lib.hid (show Below w.heap.size w V by rw [hV]; exact HB2.out.alloc HB2.out.size _)
        clear hV
        go_wp2_with (first
          | (go_at_call 31; (refine (tells06_any (HS.out.below HBV.out) lp 5 _ HEV.out _ rfl).mono ?_); (rintro e w9 ⟨rfl, rfl⟩))
          | (go_at_call 36; (refine (faultPage_is at_ lp HP.out 5 _ _ A _ (((HBV.out.cell (p := ⟨9, 0, none⟩) hlg)).trans HG.out) HEV.out (by omega)).mono ?_); (rintro e w5 ⟨rfl, hb5⟩); (have HB5 := Lib.hid (below_step HBV.out hb5)); (obtain ⟨z0, z1, z2, z3, z4⟩ := (HYV.out.below hb5).five); (clear hb5))
          | (go_at_call 26; (refine (superAwake_any _ A (HS.out.below HB5.out)).mono ?_); (rintro e w8 ⟨rfl, hb8⟩); (have HB8 := Lib.hid (below_step HB5.out hb8)); (clear hb8)))
        go_ret
        exact ⟨rfl, HB8.out⟩
  · have h0 : (at_ != 0) = true := by simp; omega
    have h1 : (at_ != 1) = true := by simp; omega
    have HT : Hid (supOpenT l at_ = (Su.zero, 2, -1)) := Lib.hid (by unfold supOpenT; rw [if_neg hat])
    clear hat
    go_enter Tryd.func12, Tryd.ntmps12
    go_upto_region 2 with (go_at_call 34; (refine (superOpen_range a c l at_ HT.out _ A HS.out HB.out).mono ?_); (rintro e w1 ⟨⟨t1, x1, lp, rfl, hE1⟩, hb1⟩); (have HE1 := Lib.hid hE1); (have HB1 := Lib.hid hb1); (clear hb1 hE1))
    refine wp_name fun W hW => ?_
    have HY := Lib.hid (show BoxAt W w1.heap.size [.int .u64 0, .int .i64 0, .int .i64 0, .int .i64 0, .int .i64 0] by rw [hW]; exact BoxAt.new w1 [_, _, _, _, _] _)
    have HBW := Lib.hid (show Below w.heap.size w W by rw [hW]; exact HB1.out.alloc HB1.out.size _)
    have HEW := Lib.hid (show ErrIs W A w.heap.size lp 2 (.iface t1 x1) by rw [hW]; exact HE1.out.below' ((Below.refl _ _).alloc (Nat.le_refl _) _))
    clear hW
    obtain ⟨z0, z1, z2, z3, z4⟩ := HY.out.five
    go_wp2_with (first
      | (go_at_call 31; (refine (tells06_any (HS.out.below HBW.out) lp 2 _ HEW.out _ rfl).mono ?_); (rintro e w9 ⟨rfl, rfl⟩))
      | (go_at_call 26; (refine (superAwake_any _ A (HS.out.below HBW.out)).mono ?_); (rintro e w8 ⟨rfl, hb8⟩); (have HB8 := Lib.hid (below_step HBW.out hb8)); (clear hb8)))
    go_ret
    exact ⟨rfl, HB8.out⟩

theorem choose_some (a1 a2 : Option Addr) (c1 c2 : Nat) (l m : List UInt8) (s : Su.Sup) (X : Int) (hT : chooseT l m = (s, X, 0)) (w : World) (A : Nat → Addr) {S : Nat → Prop} [Has S 1] [Has S 2] [Has S 5] (hs : SentsOn S w A) (hb1 : BytesAt w (.slice a1 l.length c1) l) (hb2 : BytesAt w (.slice a2 m.length c2) m) :
    Calls Tryd.prog 29 #[.slice a1 l.length c1, .slice a2 m.length c2] w fun e w' => e = .returned (.tuple #[.agg #[.int .u64 (s.gen : Int), .int .i64 s.blocks, .int .i64 s.size, .int .i64 s.root, .int .i64 s.keys], .int .i64 X, .nilIface]) ∧ Below w.heap.size w w' := by
  refine (choose_any a1 a2 c1 c2 l m w A hs hb1 hb2).mono fun e w' ⟨⟨ev, lp, he, hE, _, _⟩, hb⟩ => ⟨?_, hb⟩
  rw [hT] at he hE
  obtain ⟨rfl, _⟩ := hE.isNil
  exact he
theorem choose_none (a1 a2 : Option Addr) (c1 c2 : Nat) (l m : List UInt8) (hT : chooseT l m = (Su.zero, 0, 5)) (w : World) (A : Nat → Addr) {S : Nat → Prop} [Has S 1] [Has S 2] [Has S 5] (hs : SentsOn S w A) (hb1 : BytesAt w (.slice a1 l.length c1) l) (hb2 : BytesAt w (.slice a2 m.length c2) m) :
    Calls Tryd.prog 29 #[.slice a1 l.length c1, .slice a2 m.length c2] w fun e w' => (∃ t x lp, e = .returned (.tuple #[.agg #[.int .u64 0, .int .i64 0, .int .i64 0, .int .i64 0, .int .i64 0], .int .i64 0, .iface t x]) ∧ ErrIs w' A w.heap.size lp 5 (.iface t x) ∧ pageOf lp = -1 ∧ lp.length ≤ 1) ∧ Below w.heap.size w w' := by
  refine (choose_any a1 a2 c1 c2 l m w A hs hb1 hb2).mono fun e w' ⟨⟨ev, lp, he, hE, hp, hl⟩, hb⟩ => ⟨?_, hb⟩
  rw [hT] at he hE
  obtain ⟨t, x, rfl⟩ := hE.iface (show (5 : Nat) ≠ 0 by decide)
  exact ⟨t, x, lp, he, hE, hp, hl⟩
theorem refChoose_is (a1 a2 : Option Addr) (c1 c2 : Nat) (l m : List UInt8) (s : Su.Sup) (X : Int) (k : Nat) (B : Bool) (hB : okOf k = B) (hT : chooseT l m = (s, X, k)) (w : World) (hb1 : BytesAt w (.slice a1 l.length c1) l) (hb2 : BytesAt w (.slice a2 m.length c2) m) :
    Calls Tryd.prog 40 #[.slice a1 l.length c1, .slice a2 m.length c2] w fun e w' => e = .returned (.tuple #[.agg #[.int .u64 (s.gen : Int), .int .i64 s.blocks, .int .i64 s.size, .int .i64 s.root, .int .i64 s.keys], .int .i64 X, .bool B]) ∧ Below w.heap.size w w' := by
  subst hB
  refine (refChoose_any a1 a2 c1 c2 l m w hb1 hb2).mono fun e w' ⟨he, hb⟩ => ⟨?_, hb⟩
  rw [hT] at he
  exact he
theorem choose_cases (l m : List UInt8) : (∃ s X, chooseT l m = (s, X, 0)) ∨ chooseT l m = (Su.zero, 0, 5) := by
  unfold chooseT
  cases Su.chooseL l m with
  | none => exact .inr rfl
  | some r => exact .inl ⟨_, _, rfl⟩

set_option maxRecDepth 100000 in
set_option maxHeartbeats 4000000 in
theorem superChooses_walk (v1 v2 : Value) (l m : List UInt8) (w : World) (A : Nat → Addr) (hs : Sents w A) (hg : w.cell? ⟨9, 0, none⟩ = some errorTypeV) (hb1 : BytesAt w v1 l) (hb2 : BytesAt w v2 m) :
    Calls Tryd.prog 13 #[v1, v2] w fun e w' => e = .returned (.bool true) ∧ Below w.heap.size w w' := by
  have HS := Lib.hid hs
  have HL := Lib.hid hb1
  have HM := Lib.hid hb2
  have HG := Lib.hid hg
  have hlg : 9 < w.heap.size := World.block_lt_of_cell? w _ hg
  obtain ⟨a1, c1, rfl, -, -, -⟩ := hb1
  obtain ⟨a2, c2, rfl, -, -, -⟩ := hb2
  clear hs hg
  rcases choose_cases l m with ⟨s, X, hT⟩ | hT
  · have HT := Lib.hid hT
    clear hT
    go_enter Tryd.func13, Tryd.ntmps13
    go_upto_region 2 with (go_at_call 29; (refine (choose_some a1 a2 c1 c2 l m s X HT.out _ A HS.out HL.out HM.out).mono ?_); (rintro e w1 ⟨rfl, hb1⟩); (have HB1 := Lib.hid hb1); (clear hb1))
    refine wp_name fun W hW => ?_
    have HY := Lib.hid (show BoxAt W w1.heap.size [.int .u64 (s.gen : Int), .int .i64 s.blocks, .int .i64 s.size, .int .i64 s.root, .int .i64 s.keys] by rw [hW]; exact BoxAt.new w1 [_, _, _, _, _] _)
    have HBW := Lib.hid (show Below w.heap.size w W by rw [hW]; exact HB1.out.alloc HB1.out.size _)
    clear hW
    go_upto_region 3 with (go_at_call 40; (refine (refChoose_is a1 a2 c1 c2 l m s X 0 true rfl HT.out _ (HL.out.below HBW.out) (HM.out.below HBW.out)).mono ?_); (rintro e w2 ⟨rfl, hb2⟩); (have HY2 := Lib.hid (HY.out.below hb2)); (have HB2 := Lib.hid (below_step HBW.out hb2)); (clear hb2))
    refine wp_name fun V hV => ?_
    have HYV := Lib.hid (show BoxAt V w1.heap.size [.int .u64 (s.gen : Int), .int .i64 s.blocks, .int .i64 s.size, .int .i64 s.root, .int .i64 s.keys] by rw [hV]; exact HY2.out.alloc _)
    have HZV := Lib.hid (show BoxAt V w2.heap.size [.int .u64 (s.gen : Int), .int .i64 s.blocks, .int .i64 s.size, .int .i64 s.root, .int .i64 s.keys] by rw [hV]; exact BoxAt.new w2 [_, _, _, _, _] _)
    have HBV := Lib.hid (show Below w.heap.size w V by rw [hV]; exact HB2.out.alloc HB2.out.size _)
    clear hV
    obtain ⟨m0, m1, m2, m3, m4⟩ := HYV.out.five
    obtain ⟨n0, n1, n2, n3, n4⟩ := HZV.out.five
    go_wp2_with (go_at_call 26; (refine (superAwake_any _ A (HS.out.below HBV.out)).mono ?_); (rintro e w8 ⟨rfl, hb8⟩); (have HB8 := Lib.hid (below_step HBV.out hb8)); (clear hb8))
    go_ret
    exact ⟨rfl, HB8.out⟩
  · have HT := Lib.hid hT
    clear hT
    go_enter Tryd.func13, Tryd.ntmps13
    go_upto_region 2 with (go_at_call 29; (refine (choose_none a1 a2 c1 c2 l m HT.out _ A HS.out HL.out HM.out).mono ?_); (rintro e w1 ⟨⟨t1, x1, lp, rfl, hE1, hp1, hl1⟩, hb1⟩); (have HE1 := Lib.hid hE1); (have HP := Lib.hid hp1); (have HB1 := Lib.hid hb1); (clear hb1 hE1 hp1))
    refine wp_name fun W hW => ?_
    have HY := Lib.hid (show BoxAt W w1.heap.size [.int .u64 0, .int .i64 0, .int .i64 0, .int .i64 0, .int .i64 0] by rw [hW]; exact BoxAt.new w1 [_, _, _, _, _] _)
    have HBW := Lib.hid (show Below w.heap.size w W by rw [hW]; exact HB1.out.alloc HB1.out.size _)
    have HEW := Lib.hid (show ErrIs W A w.heap.size lp 5 (.iface t1 x1) by rw [hW]; exact HE1.out.below' ((Below.refl _ _).alloc (Nat.le_refl _) _))
    clear hW
    go_upto_region 3 with (go_at_call 40; (refine (refChoose_is a1 a2 c1 c2 l m Su.zero 0 5 false rfl HT.out _ (HL.out.below HBW.out) (HM.out.below HBW.out)).mono ?_); (rintro e w2 ⟨rfl, hb2⟩); (have HY2 := Lib.hid (HY.out.below hb2)); (have HE2 := Lib.hid (HEW.out.below' hb2)); (have HB2 := Lib.hid (below_step HBW.out hb2)); (clear hb2))
    refine wp_name fun V hV => ?_
    have HYV := Lib.hid (show BoxAt V w1.heap.size [.int .u64 0, .int .i64 0, .int .i64 0, .int .i64 0, .int .i64 0] by rw [hV]; exact HY2.out.alloc _)
    have HEV := Lib.hid (show ErrIs V A w.heap.size lp 5 (.iface t1 x1) by rw [hV]; exact HE2.out.below' ((Below.refl _ _).alloc (Nat.le_refl _) _))
    have HBV := Lib.hid (show Below w.heap.size w V by rw [hV]; exact HB2.out.alloc HB2.out.size _)
    clear hV
    go_wp2_with (first
      | (go_at_call 31; (refine (tells06_any (HS.out.below HBV.out) lp 5 _ HEV.out _ rfl).mono ?_); (rintro e w9 ⟨rfl, rfl⟩))
      | (go_at_call 36; (refine (faultPage_is (-1) lp HP.out 5 _ _ A _ (((HBV.out.cell (p := ⟨9, 0, none⟩) hlg)).trans HG.out) HEV.out (by omega)).mono ?_); (rintro e w5 ⟨rfl, hb5⟩); (have HB5 := Lib.hid (below_step HBV.out hb5)); (obtain ⟨z0, z1, z2, z3, z4⟩ := (HYV.out.below hb5).five); (clear hb5))
      | (go_at_call 26; (refine (superAwake_any _ A (HS.out.below HB5.out)).mono ?_); (rintro e w8 ⟨rfl, hb8⟩); (have HB8 := Lib.hid (below_step HB5.out hb8)); (clear hb8)))
    go_ret
    exact ⟨rfl, HB8.out⟩
end Go.Proofs.YtaofhdoieffhhaaDoor
