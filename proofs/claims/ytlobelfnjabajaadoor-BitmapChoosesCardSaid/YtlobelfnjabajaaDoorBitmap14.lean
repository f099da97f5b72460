/- bitmaps: the walks of BitmapOpens, BitmapChooses -/
import Derived.Test.YtlobelfnjabajaaDoorBitmap13
import Derived.Test.YtlobelfnjabajaaDoorFaultPage
namespace Go.Proofs.YtlobelfnjabajaaDoor
open Go.RowKit
set_option linter.unusedVariables false
set_option linter.unusedSimpArgs false

theorem faultPage_is (x : Int) (l : List Int) (hx : pageOf l = x) (k : Nat) (v : Value) (w : World) (A : Nat → Addr) (B : Nat) (hg : w.cell? ⟨9, 0, none⟩ = some errorTypeV) (hE : ErrIs w A B l k v) (hlen : l.length ≤ 900) :
    Calls Tryd.prog 46 #[v] w fun e w' => e = .returned (.int .i64 x) ∧ Below w.heap.size w w' := by
  subst hx; exact faultPage_any l k v w A B hg hE hlen
theorem refMapSame_is (p q : Bm.Map) (B : Bool) (hB : mapEq p q = B) (s1 s2 : Value) (w : World) (h1 : IntsAt w s1 p.used) (h2 : IntsAt w s2 q.used) :
    Calls Tryd.prog 47 #[.agg #[.int .u64 (p.gen : Int), .int .i64 p.blocks, s1], .agg #[.int .u64 (q.gen : Int), .int .i64 q.blocks, s2]] w fun e w' => e = .returned (.bool B) ∧ Below w.heap.size w w' := by subst hB; exact refMapSame_any p q s1 s2 w h1 h2
theorem mapSame_zero (s1 : Value) (w : World) (h1 : IntsAt w s1 []) :
    Calls Tryd.prog 35 #[.agg #[.int .u64 0, .int .i64 0, s1], .agg #[.int .u64 0, .int .i64 0, .slice none 0 0]] w fun e w' => e = .returned (.bool true) ∧ Below w.heap.size w w' := by
  have h := mapSame_any Bm.zero Bm.zero s1 (.slice none 0 0) w h1 (IntsAt.nil w)
  rw [mapEq_self] at h
  exact h
set_option maxRecDepth 100000 in
set_option maxHeartbeats 8000000 in
theorem bitmapOpens_walk (v : Value) (l : List UInt8) (x y : Int) (g : Nat) (w : World) (A : Nat → Addr) (hs : Sents w A) (hT : w.cell? ⟨9, 0, none⟩ = some errorTypeV) (hb : BytesAt w v l) (hg : g < 18446744073709551616) :
    Calls Tryd.prog 12 #[v, .agg #[.int .i64 x, .int .i64 y, .int .u64 (g : Int)]] w fun e w' => e = .returned (.bool true) ∧ Below w.heap.size w w' := by
  have HS := Lib.hid hs
  have HB := Lib.hid hb
  have HTT := Lib.hid hT
  have hlg : 9 < w.heap.size := World.block_lt_of_cell? w _ hT
  obtain ⟨a, c, rfl, -, -, -⟩ := hb
  clear hs hT
  cases ho : Bm.bmOpen l x g y with
  | some m =>
    have HT := Lib.hid (mapOpen_some ho)
    have HR := Lib.hid (refMap_some ho)
    have HEQ := Lib.hid (mapEq_self m)
    clear ho
    go_enter Tryd.func12, Tryd.ntmps12
    go_upto_region 2 with (go_at_call 44; (refine (mapOpen_is l x g y m 0 (-1) HT.out a c _ A (HS.out.below (by go_grown)) (HB.out.alloc _) hg).mono ?_); (rintro e w1 ⟨⟨b1, d1, ev1, lp1, rfl, ho1, hE1, hp1, hq1⟩, hb1⟩); (obtain ⟨rfl, rfl⟩ := hE1.isNil); (have HX1 := Lib.hid ((BoxAt.new w [.int .i64 x, .int .i64 y, .int .u64 (g : Int)] 78).below hb1)); (have HB1 := Lib.hid ((show Below w.heap.size w _ by go_grown).trans (hb1.mono (by simp)))); (have HO1 := Lib.hid ho1); (clear ho1 hE1 hb1))
    refine wp_name fun W hW => ?_
    have HX := Lib.hid (show BoxAt W w.heap.size [.int .i64 x, .int .i64 y, .int .u64 (g : Int)] by rw [hW]; exact HX1.out.alloc _)
    have HY := Lib.hid (show BoxAt W w1.heap.size [.int .u64 (m.gen : Int), .int .i64 m.blocks, .slice b1 m.used.length d1] by rw [hW]; exact BoxAt.new w1 [_, _, _] _)
    have HI := Lib.hid (show IntsAt W (.slice b1 m.used.length d1) m.used by rw [hW]; exact (HO1.out.alloc _).ints)
    have HBW := Lib.hid (show Below w.heap.size w W by rw [hW]; exact HB1.out.alloc HB1.out.size _)
    clear hW
    obtain ⟨m0, m1, m2⟩ := HX.out.three
    go_upto_region 3 with (go_at_call 45; (refine (refMapOpen_is l x g y m true HR.out a c _ (HB.out.below HBW.out) hg).mono ?_); (rintro e w2 ⟨⟨b2, d2, rfl, ho2⟩, hb2⟩); (have HX2 := Lib.hid (HX.out.below hb2)); (have HY2 := Lib.hid (HY.out.below hb2)); (have HI2 := Lib.hid (HI.out.below hb2)); (have HB2 := Lib.hid (below_step HBW.out hb2)); (have HO2 := Lib.hid ho2); (clear ho2 hb2))
    refine wp_name fun V hV => ?_
    have HYV := Lib.hid (show BoxAt V w1.heap.size [.int .u64 (m.gen : Int), .int .i64 m.blocks, .slice b1 m.used.length d1] by rw [hV]; exact HY2.out.alloc _)
    have HZV := Lib.hid (show BoxAt V w2.heap.size [.int .u64 (m.gen : Int), .int .i64 m.blocks, .slice b2 m.used.length d2] by rw [hV]; exact BoxAt.new w2 [_, _, _] _)
    have HIV := Lib.hid (show IntsAt V (.slice b1 m.used.length d1) m.used by rw [hV]; exact HI2.out.alloc _)
    have HJV := Lib.hid (show IntsAt V (.slice b2 m.used.length d2) m.used by rw [hV]; exact (HO2.out.alloc _).ints)
    have HBV := Lib.hid (show Below w.heap.size w V by rw [hV]; exact HB2.out.alloc HB2.out.size _)
    clear hV m0 m1 m2
    go_wp2_with fail
    have q0 := Later.cell (HYV.out.at 0 _ rfl)
    have q1 := Later.cell (HYV.out.at 1 _ rfl)
    have q2 := Later.cell (HYV.out.at 2 _ rfl)
    have r0 := Later.cell (HZV.out.at 0 _ rfl)
    have r1 := Later.cell (HZV.out.at 1 _ rfl)
    have r2 := Later.cell (HZV.out.at 2 _ rfl)
    refine wp_region_later (by kernel_rfl) (by kernel_rfl) ?_
    repeat (first | go_big_quiet_step (first
        | (go_at_call 29; exact Calls.later_of (of_any m.gen m.blocks b1 m.used.length d1 _))
        | (go_at_call 47; exact Calls.later_of (refMapSame_is m m true HEQ.out _ _ _ (HIV.out.below (Later.below _)) (HJV.out.below (Later.below _))))
        | (go_at_call 30; exact Calls.later_of (mapAwake_any _ A ((HS.out.below HBV.out).below (Later.below _))))) | quiet_step (fail))
    refine wpQuiet_nil ?_
    intro xw
    have hxb := xw.below
    go_wp2_with fail
    go_ret
    exact ⟨rfl, HBV.out.trans (hxb.mono HBV.out.size)⟩
  | none =>
    have HT := Lib.hid (mapOpen_none ho)
    have HR := Lib.hid (refMap_none ho)
    clear ho
    rcases (show -1 ≤ x ∨ x < -1 by omega) with hx | hx
    all_goals
      go_enter Tryd.func12, Tryd.ntmps12
      go_upto_region 2 with (go_at_call 44; (refine (mapOpen_is l x g y Bm.zero 5 (max x (-1)) HT.out a c _ A (HS.out.below (by go_grown)) (HB.out.alloc _) hg).mono ?_); (rintro e w1 ⟨⟨b1, d1, ev1, lp1, rfl, ho1, hE1, hp1, hq1⟩, hb1⟩); (obtain ⟨t1, x1, rfl⟩ := hE1.iface (by decide)); (have HX1 := Lib.hid ((BoxAt.new w [.int .i64 x, .int .i64 y, .int .u64 (g : Int)] 78).below hb1)); (have HB1 := Lib.hid ((show Below w.heap.size w _ by go_grown).trans (hb1.mono (by simp)))); (have HO1 := Lib.hid ho1); (have HE1 := Lib.hid hE1); (have HP1 := Lib.hid hp1); (have HQ1 := Lib.hid hq1); (clear ho1 hE1 hb1 hp1 hq1))
      refine wp_name fun W hW => ?_
      have HX := Lib.hid (show BoxAt W w.heap.size [.int .i64 x, .int .i64 y, .int .u64 (g : Int)] by rw [hW]; exact HX1.out.alloc _)
      have HY := Lib.hid (show BoxAt W w1.heap.size [.int .u64 0, .int .i64 0, .slice b1 0 d1] by rw [hW]; exact BoxAt.new w1 [_, _, _] _)
      have HI := Lib.hid (show IntsAt W (.slice b1 0 d1) [] by rw [hW]; exact (HO1.out.alloc _).ints)
      have HEW := Lib.hid (HE1.out.below (w' := W) (by rw [hW]; exact (Below.refl _ _).alloc (Nat.le_refl _) _))
      have HBW := Lib.hid (show Below w.heap.size w W by rw [hW]; exact HB1.out.alloc HB1.out.size _)
      clear hW
      obtain ⟨m0, m1, m2⟩ := HX.out.three
      go_upto_region 3 with (go_at_call 45; (refine (refMapOpen_is l x g y Bm.zero false HR.out a c _ (HB.out.below HBW.out) hg).mono ?_); (rintro e w2 ⟨⟨b2, d2, rfl, ho2⟩, hb2⟩); (have HX2 := Lib.hid (HX.out.below hb2)); (have HY2 := Lib.hid (HY.out.below hb2)); (have HI2 := Lib.hid (HI.out.below hb2)); (have HE2 := Lib.hid (HEW.out.below hb2)); (have HB2 := Lib.hid (below_step HBW.out hb2)); (clear ho2 hb2))
      refine wp_name fun V hV => ?_
      have HXV := Lib.hid (show BoxAt V w.heap.size [.int .i64 x, .int .i64 y, .int .u64 (g : Int)] by rw [hV]; exact HX2.out.alloc _)
      have HYV := Lib.hid (show BoxAt V w1.heap.size [.int .u64 0, .int .i64 0, .slice b1 0 d1] by rw [hV]; exact HY2.out.alloc _)
      have HIV := Lib.hid (show IntsAt V (.slice b1 0 d1) [] by rw [hV]; exact HI2.out.alloc _)
      have HEV := Lib.hid (HE2.out.below (w' := V) (by rw [hV]; exact (Below.refl _ _).alloc (Nat.le_refl _) _))
      have HBV := Lib.hid (show Below w.heap.size w V by rw [hV]; exact HB2.out.alloc HB2.out.size _)
      clear hV m0 m1 m2
      go_wp2_with fail
      have hpg : pageOf lp1 = max x (-1) := HP1.out
      have q0 := Later.cell (HYV.out.at 0 _ rfl)
      have q1 := Later.cell (HYV.out.at 1 _ rfl)
      have q2 := Later.cell (HYV.out.at 2 _ rfl)
      have r0 := Later.cell (HXV.out.at 0 _ rfl)
      have hTV := Later.cell ((HBV.out.cell (p := ⟨9, 0, none⟩) hlg).trans HTT.out)
      have hpx : pageOf lp1 = (if -1 ≤ x then x else -1) := by rw [hpg]; split <;> omega
      first | rw [if_pos hx] at hpx | rw [if_neg (by omega)] at hpx
      have HPX := Lib.hid hpx
      clear hpx hpg
      refine wp_region_later (by kernel_rfl) (by kernel_rfl) ?_
      repeat (first | go_big_quiet_step (first
          | (go_at_call 40; exact Calls.later_same (tells16_any ((HS.out.below HBV.out).below (Later.below _)) lp1 5 _ (HEV.out.below (Later.below _)) _ rfl))
          | (go_at_call 46; exact Calls.later_of (faultPage_is _ lp1 HPX.out 5 _ _ A _ (hTV _) (HEV.out.below (Later.below _)) (by have := HQ1.out; omega)))
          | (go_at_call 35; exact Calls.later_of (mapSame_zero _ _ (HIV.out.below (Later.below _))))
          | (go_at_call 30; exact Calls.later_of (mapAwake_any _ A ((HS.out.below HBV.out).below (Later.below _))))) | quiet_step (fail))
      refine wpQuiet_nil ?_
      intro xw
      have hxb := xw.below
      go_wp2_with fail
      go_ret
      exact ⟨rfl, HBV.out.trans (hxb.mono HBV.out.size)⟩

theorem mapChoose_code (l m : List UInt8) (gen : Nat) (blocks : Int) : (∃ mp bad, mapChooseT l m gen blocks = (mp, bad, 0)) ∨ ∃ bad, mapChooseT l m gen blocks = (Bm.zero, bad, 5) := by
  unfold mapChooseT
  cases Bm.bmOpen l (Bm.first gen) gen blocks <;> cases Bm.bmOpen m (Bm.first gen + 1) gen blocks <;> simp
theorem mapChoose_is (mp : Bm.Map) (bad : List Int) (k : Nat) (a1 a2 : Option Addr) (c1 c2 : Nat) (l m : List UInt8) (gen : Nat) (blocks : Int) (hT : mapChooseT l m gen blocks = (mp, bad, k)) (w : World) (A : Nat → Addr) {S : Nat → Prop} [Has S 1] [Has S 2] [Has S 5] (hs : SentsOn S w A) (hb1 : BytesAt w (.slice a1 l.length c1) l) (hb2 : BytesAt w (.slice a2 m.length c2) m) (hg : gen < 18446744073709551616) :
    Calls Tryd.prog 34 #[.slice a1 l.length c1, .slice a2 m.length c2, .int .u64 (gen : Int), .int .i64 blocks] w fun e w' => (∃ a c a' n' c' ev lp, e = .returned (.tuple #[.agg #[.int .u64 (mp.gen : Int), .int .i64 mp.blocks, .slice a mp.used.length c], .slice a' n' c', ev]) ∧ OwnI w' w.heap.size (.slice a mp.used.length c) mp.used ∧ IntsAt w' (.slice a' n' c') bad ∧ ErrIs w' A w.heap.size lp k ev ∧ pageOf lp = -1 ∧ lp.length ≤ 1) ∧ Below w.heap.size w w' := by
  refine (mapChoose_any a1 a2 c1 c2 l m gen blocks w A hs hb1 hb2 hg).mono fun e w' ⟨h, hb⟩ => ⟨?_, hb⟩
  rw [hT] at h
  obtain ⟨a, c, v, ev, lp, he, ho, hi, r⟩ := h
  obtain ⟨a', c', rfl, q⟩ := hi
  exact ⟨a, c, a', _, c', ev, lp, he, ho, ⟨a', c', rfl, q⟩, r⟩
theorem refMapChoose_is (mp : Bm.Map) (bad : List Int) (k : Nat) (B : Bool) (hB : (k == 0) = B) (a1 a2 : Option Addr) (c1 c2 : Nat) (l m : List UInt8) (gen : Nat) (blocks : Int) (hT : mapChooseT l m gen blocks = (mp, bad, k)) (w : World) (hb1 : BytesAt w (.slice a1 l.length c1) l) (hb2 : BytesAt w (.slice a2 m.length c2) m) (hg : gen < 18446744073709551616) :
    Calls Tryd.prog 48 #[.slice a1 l.length c1, .slice a2 m.length c2, .int .u64 (gen : Int), .int .i64 blocks] w fun e w' => (∃ a c a' n' c', e = .returned (.tuple #[.agg #[.int .u64 (mp.gen : Int), .int .i64 mp.blocks, .slice a mp.used.length c], .slice a' n' c', .bool B]) ∧ OwnI w' w.heap.size (.slice a mp.used.length c) mp.used ∧ IntsAt w' (.slice a' n' c') bad) ∧ Below w.heap.size w w' := by
  subst hB
  refine (refMapChoose_any a1 a2 c1 c2 l m gen blocks w hb1 hb2 hg).mono fun e w' ⟨h, hb⟩ => ⟨?_, hb⟩
  rw [hT] at h
  obtain ⟨a, c, v, he, ho, hi⟩ := h
  obtain ⟨a', c', rfl, q⟩ := hi
  exact ⟨a, c, a', _, c', he, ho, ⟨a', c', rfl, q⟩⟩
theorem sameInts_is (v1 v2 : Value) (l1 l2 : List Int) (t : Bool) (ht : (l1 == l2) = t) (w : World) (h1 : IntsAt w v1 l1) (h2 : IntsAt w v2 l2) :
    Calls Tryd.prog 36 #[v1, v2] w fun e w' => e = .returned (.bool t) ∧ Below w.heap.size w w' := by subst ht; exact sameInts_any v1 v2 l1 l2 w h1 h2
set_option maxRecDepth 100000 in
set_option maxHeartbeats 8000000 in
theorem bitmapChooses_walk (v1 v2 : Value) (l m : List UInt8) (x y : Int) (g : Nat) (w : World) (A : Nat → Addr) (hs : Sents w A) (hT : w.cell? ⟨9, 0, none⟩ = some errorTypeV) (hb1 : BytesAt w v1 l) (hb2 : BytesAt w v2 m) (hg : g < 18446744073709551616) :
    Calls Tryd.prog 13 #[v1, v2, .agg #[.int .i64 x, .int .i64 y, .int .u64 (g : Int)]] w fun e w' => e = .returned (.bool true) ∧ Below w.heap.size w w' := by
  have HS := Lib.hid hs
  have HB1 := Lib.hid hb1
  have HB2 := Lib.hid hb2
  have HTT := Lib.hid hT
  have hlg : 9 < w.heap.size := World.block_lt_of_cell? w _ hT
  obtain ⟨a1, c1, rfl, -, -, -⟩ := hb1
  obtain ⟨a2, c2, rfl, -, -, -⟩ := hb2
  clear hs hT
  rcases mapChoose_code l m g y with ⟨mp, bad, hr⟩ | ⟨bad, hr⟩
  · have HR := Lib.hid hr
    have HEQ := Lib.hid (mapEq_self mp)
    have HBB := Lib.hid (show (bad == bad) = true by simp)
    clear hr
    go_enter Tryd.func13, Tryd.ntmps13
    go_upto_region 2 with (go_at_call 34; (refine (mapChoose_is mp bad 0 a1 a2 c1 c2 l m g y HR.out _ A (HS.out.below (by go_grown)) (HB1.out.alloc _) (HB2.out.alloc _) hg).mono ?_); (rintro e w1 ⟨⟨b1, d1, e1, n1, f1, ev1, lp1, rfl, ho1, hi1, hE1, hp1, hq1⟩, hb1⟩); (obtain ⟨rfl, rfl⟩ := hE1.isNil); (have HX1 := Lib.hid ((BoxAt.new w [.int .i64 x, .int .i64 y, .int .u64 (g : Int)] 78).below hb1)); (have HC1 := Lib.hid ((show Below w.heap.size w _ by go_grown).trans (hb1.mono (by simp)))); (have HO1 := Lib.hid ho1); (have HI1 := Lib.hid hi1); (clear ho1 hi1 hE1 hb1))
    refine wp_name fun W hW => ?_
    have hbW : Below w1.heap.size w1 W := by rw [hW]; exact (Below.refl _ _).alloc (Nat.le_refl _) _
    have HX := Lib.hid (HX1.out.below hbW)
    have HY := Lib.hid (show BoxAt W w1.heap.size [.int .u64 (mp.gen : Int), .int .i64 mp.blocks, .slice b1 mp.used.length d1] by rw [hW]; exact BoxAt.new w1 [_, _, _] _)
    have HI := Lib.hid (HO1.out.ints.below hbW)
    have HJ := Lib.hid (HI1.out.below hbW)
    have HBW := Lib.hid (below_step HC1.out hbW)
    clear hW hbW
    obtain ⟨m0, m1, m2⟩ := HX.out.three
    go_upto_region 3 with (go_at_call 48; (refine (refMapChoose_is mp bad 0 true rfl a1 a2 c1 c2 l m g y HR.out _ (HB1.out.below HBW.out) (HB2.out.below HBW.out) hg).mono ?_); (rintro e w2 ⟨⟨b2, d2, e2, n2, f2, rfl, ho2, hi2⟩, hb2⟩); (have HC2 := Lib.hid hb2); (have HO2 := Lib.hid ho2); (have HI2 := Lib.hid hi2); (clear ho2 hb2 hi2))
    refine wp_name fun V hV => ?_
    have hbV : Below w2.heap.size w2 V := by rw [hV]; exact (Below.refl _ _).alloc (Nat.le_refl _) _
    have hbWV : Below W.heap.size W V := HC2.out.trans (hbV.mono HC2.out.size)
    have HYV := Lib.hid (HY.out.below hbWV)
    have HZV := Lib.hid (show BoxAt V w2.heap.size [.int .u64 (mp.gen : Int), .int .i64 mp.blocks, .slice b2 mp.used.length d2] by rw [hV]; exact BoxAt.new w2 [_, _, _] _)
    have HIV := Lib.hid (HI.out.below hbWV)
    have HJV := Lib.hid (HJ.out.below hbWV)
    have HKV := Lib.hid (HO2.out.ints.below hbV)
    have HLV := Lib.hid (HI2.out.below hbV)
    have HBV := Lib.hid (below_step HBW.out hbWV)
    clear hV hbV hbWV m0 m1 m2
    go_wp2_with fail
    have q0 := Later.cell (HYV.out.at 0 _ rfl)
    have q1 := Later.cell (HYV.out.at 1 _ rfl)
    have q2 := Later.cell (HYV.out.at 2 _ rfl)
    have r0 := Later.cell (HZV.out.at 0 _ rfl)
    have r1 := Later.cell (HZV.out.at 1 _ rfl)
    have r2 := Later.cell (HZV.out.at 2 _ rfl)
    refine wp_region_later (by kernel_rfl) (by kernel_rfl) ?_
    repeat (first | go_big_quiet_step (first
        | (go_at_call 29; exact Calls.later_of (of_any mp.gen mp.blocks b1 mp.used.length d1 _))
        | (go_at_call 47; exact Calls.later_of (refMapSame_is mp mp true HEQ.out _ _ _ (HIV.out.below (Later.below _)) (HKV.out.below (Later.below _))))
        | (go_at_call 36; exact Calls.later_of (sameInts_is _ _ bad bad true HBB.out _ (HJV.out.below (Later.below _)) (HLV.out.below (Later.below _))))
        | (go_at_call 30; exact Calls.later_of (mapAwake_any _ A ((HS.out.below HBV.out).below (Later.below _))))) | quiet_step (fail))
    refine wpQuiet_nil ?_
    intro xw
    have hxb := xw.below
    go_wp2_with fail
    go_ret
    exact ⟨rfl, HBV.out.trans (hxb.mono HBV.out.size)⟩
  · have HR := Lib.hid hr
    have HBB := Lib.hid (show (bad == bad) = true by simp)
    clear hr
    go_enter Tryd.func13, Tryd.ntmps13
    go_upto_region 2 with (go_at_call 34; (refine (mapChoose_is Bm.zero bad 5 a1 a2 c1 c2 l m g y HR.out _ A (HS.out.below (by go_grown)) (HB1.out.alloc _) (HB2.out.alloc _) hg).mono ?_); (rintro e w1 ⟨⟨b1, d1, e1, n1, f1, ev1, lp1, rfl, ho1, hi1, hE1, hp1, hq1⟩, hb1⟩); (obtain ⟨t1, x1, rfl⟩ := hE1.iface (by decide)); (have HX1 := Lib.hid ((BoxAt.new w [.int .i64 x, .int .i64 y, .int .u64 (g : Int)] 78).below hb1)); (have HC1 := Lib.hid ((show Below w.heap.size w _ by go_grown).trans (hb1.mono (by simp)))); (have HI1 := Lib.hid hi1); (have HE1 := Lib.hid hE1); (have HP1 := Lib.hid hp1); (have HQ1 := Lib.hid hq1); (clear ho1 hi1 hE1 hb1 hp1 hq1))
    refine wp_name fun W hW => ?_
    have hbW : Below w1.heap.size w1 W := by rw [hW]; exact (Below.refl _ _).alloc (Nat.le_refl _) _
    have HX := Lib.hid (HX1.out.below hbW)
    have HY := Lib.hid (show BoxAt W w1.heap.size [.int .u64 0, .int .i64 0, .slice b1 0 d1] by rw [hW]; exact BoxAt.new w1 [_, _, _] _)
    have HJ := Lib.hid (HI1.out.below hbW)
    have HEW := Lib.hid (HE1.out.below hbW)
    have HBW := Lib.hid (below_step HC1.out hbW)
    clear hW hbW
    obtain ⟨m0, m1, m2⟩ := HX.out.three
    go_upto_region 3 with (go_at_call 48; (refine (refMapChoose_is Bm.zero bad 5 false rfl a1 a2 c1 c2 l m g y HR.out _ (HB1.out.below HBW.out) (HB2.out.below HBW.out) hg).mono ?_); (rintro e w2 ⟨⟨b2, d2, e2, n2, f2, rfl, ho2, hi2⟩, hb2⟩); (have HC2 := Lib.hid hb2); (have HI2 := Lib.hid hi2); (clear ho2 hb2 hi2))
    refine wp_name fun V hV => ?_
    have hbV : Below w2.heap.size w2 V := by rw [hV]; exact (Below.refl _ _).alloc (Nat.le_refl _) _
    have hbWV : Below W.heap.size W V := HC2.out.trans (hbV.mono HC2.out.size)
    have HYV := Lib.hid (HY.out.below hbWV)
    have HJV := Lib.hid (HJ.out.below hbWV)
    have HLV := Lib.hid (HI2.out.below hbV)
    have HEV := Lib.hid (HEW.out.below hbWV)
    have HBV := Lib.hid (below_step HBW.out hbWV)
    have hTV := (HBV.out.cell (p := ⟨9, 0, none⟩) hlg).trans HTT.out
    have HTV := Lib.hid hTV
    clear hV hbV hbWV m0 m1 m2 hTV
    go_wp2_with (first
      | (go_at_call 40; (refine (tells16_any (HS.out.below HBV.out) lp1 5 _ HEV.out _ rfl).mono ?_); (rintro e w3 ⟨rfl, rfl⟩))
      | (go_at_call 46; (refine (faultPage_is (-1) lp1 HP1.out 5 _ _ A _ HTV.out HEV.out (by have := HQ1.out; omega)).mono ?_); (rintro e w4 ⟨rfl, hb4⟩); (have HJ4 := Lib.hid (HJV.out.below hb4)); (have HL4 := Lib.hid (HLV.out.below hb4)); (have HY4 := Lib.hid (HYV.out.below hb4)); (have HB4 := Lib.hid (below_step HBV.out hb4)); (clear hb4))
      | (go_at_call 36; (refine (sameInts_is _ _ bad bad true HBB.out _ HJ4.out HL4.out).mono ?_); (rintro e w5 ⟨rfl, hb5⟩); (have HB5 := Lib.hid (below_step HB4.out hb5)); (obtain ⟨y0, y1, y2⟩ := (HY4.out.below hb5).three); (clear hb5))
      | (go_at_call 30; (refine (mapAwake_any _ A (HS.out.below HB5.out)).mono ?_); (rintro e w6 ⟨rfl, hb6⟩); (have HB6 := Lib.hid (below_step HB5.out hb6)); (clear hb6)))
    go_ret
    exact ⟨rfl, HB6.out⟩
end Go.Proofs.YtlobelfnjabajaaDoor
