/- bitmaps: the document's Choose (printed by gen_bmrefchoose.py) -/
import Derived.Test.YtlobelfnjabajaaDoorBitmap12
namespace Go.Proofs.YtlobelfnjabajaaDoor
open Go.RowKit
set_option linter.unusedVariables false
set_option linter.unusedSimpArgs false

def RefMapChoose (w : World) (r : Bm.Map × List Int × Nat) (e : Ending) (w' : World) : Prop :=
  ∃ a c v, e = .returned (.tuple #[mapV r.1 (.slice a r.1.used.length c), v, .bool (r.2.2 == 0)]) ∧ OwnI w' w.heap.size (.slice a r.1.used.length c) r.1.used ∧ IntsAt w' v r.2.1
theorem box_int {w : World} {r : Nat} {x : Int} (h : BoxAt w r [.int .i64 x]) : IntsAt w (.slice (some ⟨r, 0, none⟩) 1 1) [x] := by
  refine ⟨_, 1, rfl, by simp, by decide, .inr ⟨r, 0, rfl, fun i z hz => ?_⟩⟩
  rcases i with _ | i
  · simp at hz; subst hz; exact h.at 0 _ rfl
  · simp at hz
theorem refMapOpen_is (l : List UInt8) (at_ : Int) (gen : Nat) (blocks : Int) (m : Bm.Map) (B : Bool) (hT : refMapT l at_ gen blocks = (m, B)) (a : Option Addr) (c : Nat) (w : World) (hb : BytesAt w (.slice a l.length c) l) (hg : gen < 18446744073709551616) :
    Calls Tryd.prog 45 #[.slice a l.length c, .int .i64 at_, .int .u64 (gen : Int), .int .i64 blocks] w fun e w' => (∃ a2 c2, e = .returned (.tuple #[.agg #[.int .u64 (m.gen : Int), .int .i64 m.blocks, .slice a2 m.used.length c2], .bool B]) ∧ OwnI w' w.heap.size (.slice a2 m.used.length c2) m.used) ∧ Below w.heap.size w w' := by
  have h := refMapOpen_any a c l at_ gen blocks w hb hg
  rw [hT] at h
  exact h
set_option maxRecDepth 100000 in
set_option maxHeartbeats 8000000 in
theorem refMapChoose_any (a1 a2 : Option Addr) (c1 c2 : Nat) (l m : List UInt8) (gen : Nat) (blocks : Int) (w : World) (hb1 : BytesAt w (.slice a1 l.length c1) l) (hb2 : BytesAt w (.slice a2 m.length c2) m) (hg : gen < 18446744073709551616) :
    Calls Tryd.prog 48 #[.slice a1 l.length c1, .slice a2 m.length c2, .int .u64 (gen : Int), .int .i64 blocks] w fun e w' => RefMapChoose w (mapChooseT l m gen blocks) e w' ∧ Below w.heap.size w w' := by
  have HBL := Lib.hid hb1
  have HBM := Lib.hid hb2
  obtain ⟨F, hF⟩ : ∃ F, Bm.first gen = F := ⟨_, rfl⟩
  have HF := Lib.hid hF
  have hch : mapChooseT l m gen blocks = match Bm.bmOpen l F gen blocks, Bm.bmOpen m (F + 1) gen blocks with
    | none, none => (Bm.zero, [F, F + 1], 5)
    | none, some t => (t, [F], 0)
    | some s, none => (s, [F + 1], 0)
    | some s, some _ => (s, [], 0) := by rw [← hF]; rfl
  have HCH := Lib.hid hch
  have hF2 := first_two hF
  have hFb : 2 ≤ F ∧ F ≤ 4 := by omega
  clear hb1 hb2 hF hch hF2
  cases hl : Bm.bmOpen l F gen blocks with
  | none =>
    cases hm : Bm.bmOpen m (F + 1) gen blocks with
    | none =>
      have HL := Lib.hid (refMap_none (l := l) hl)
      have HM := Lib.hid (refMap_none (l := m) hm)
      have HT : Hid (mapChooseT l m gen blocks = (Bm.zero, [F, F + 1], 5)) := Lib.hid (by rw [HCH.out, hl, hm])
      clear hl hm
      go_enter Tryd.func48, Tryd.ntmps48
      go_upto_region 2 with (go_at_call 42; (refine (refFirst_is gen F HF.out hg _).mono ?_); (rintro e w0 ⟨rfl, rfl⟩))
      refine wp_name fun W0 hW0 => ?_
      have HRW0 := Lib.hid (show BoxAt W0 w.heap.size [.int .u64 0, .int .i64 0, .slice none 0 0] by rw [hW0]; exact BoxAt.new w [_, _, _] _)
      have HBW0 := Lib.hid (show Below w.heap.size w W0 by rw [hW0]; go_grown)
      clear hW0
      go_upto_region 3 with (go_at_call 45; (refine (refMapOpen_is l F gen blocks Bm.zero false HL.out _ _ _ (HBL.out.below HBW0.out) hg).mono ?_); (rintro e w1 ⟨⟨b1, d1, rfl, ho1⟩, hb1⟩))
      refine wp_name fun W1 hW1 => ?_
      have hbW : Below W0.heap.size W0 W1 := by rw [hW1]; exact hb1.alloc hb1.size _
      have HRW1 := Lib.hid (HRW0.out.below hbW)
      have HBW1 := Lib.hid (below_step HBW0.out hbW)
      have hsw1 := hb1.size
      have hsW1 : W1.heap.size = w1.heap.size + 1 := by rw [hW1]; simp
      clear hW1 hbW hb1 ho1
      go_upto_region 4 with (go_at_call 45; (refine (refMapOpen_is m (F + 1) gen blocks Bm.zero false HM.out _ _ _ (HBM.out.below HBW1.out) hg).mono ?_); (rintro e w2 ⟨⟨b2, d2, rfl, ho2⟩, hb2⟩))
      refine wp_name fun W2 hW2 => ?_
      have hbW : Below W1.heap.size W1 W2 := by rw [hW2]; exact hb2.alloc hb2.size _
      have HRW2 := Lib.hid (HRW1.out.below hbW)
      have HBW2 := Lib.hid (below_step HBW1.out hbW)
      have hsw2 := hb2.size
      have hsW2 : W2.heap.size = w2.heap.size + 1 := by rw [hW2]; simp
      clear hW2 hbW hb2 ho2
      have hls := HRW0.out.lt
      obtain ⟨m0, m1, m2⟩ := HRW2.out.three
      have f0 := HRW2.out.free 0 _ rfl
      have f1 := HRW2.out.free 1 _ rfl
      have f2 := HRW2.out.free 2 _ rfl
      have k0 : w.heap.size < W2.heap.size := by omega
      have k1 : ¬ W2.heap.size = w.heap.size := Nat.ne_of_gt k0
      have k2 : ¬ w.heap.size = W2.heap.size := Nat.ne_of_lt k0
      have kk1 := HRW1.out.lt
      clear hsW1 hsW2 hsw1 hsw2
      go_wp2_with fail
      have hb := HBW2.out
      refine bodyPost_ret (v := .tuple #[mapV Bm.zero (.slice none 0 0), .slice (some ⟨W2.heap.size, 0, none⟩) 2 2, .bool false]) (by simp [results, Tryd.results48, go_sem, m0, m1, m2, mapV, Bm.zero, k0, k1, k2]) rfl ?_
      rw [HT.out]
      refine ⟨⟨none, 0, _, rfl, OwnI.nil _ _, ?_⟩, by go_grown⟩
      exact (two_ints (BoxAt.newAt _ W2.heap.size (by simp) [.int .i64 F, .int .i64 (F + 1)] _)).1
    | some t =>
      have HL := Lib.hid (refMap_none (l := l) hl)
      have HM := Lib.hid (refMap_some (l := m) hm)
      have HT : Hid (mapChooseT l m gen blocks = (t, [F], 0)) := Lib.hid (by rw [HCH.out, hl, hm])
      clear hl hm
      go_enter Tryd.func48, Tryd.ntmps48
      go_upto_region 2 with (go_at_call 42; (refine (refFirst_is gen F HF.out hg _).mono ?_); (rintro e w0 ⟨rfl, rfl⟩))
      refine wp_name fun W0 hW0 => ?_
      have HRW0 := Lib.hid (show BoxAt W0 w.heap.size [.int .u64 0, .int .i64 0, .slice none 0 0] by rw [hW0]; exact BoxAt.new w [_, _, _] _)
      have HBW0 := Lib.hid (show Below w.heap.size w W0 by rw [hW0]; go_grown)
      clear hW0
      go_upto_region 3 with (go_at_call 45; (refine (refMapOpen_is l F gen blocks Bm.zero false HL.out _ _ _ (HBL.out.below HBW0.out) hg).mono ?_); (rintro e w1 ⟨⟨b1, d1, rfl, ho1⟩, hb1⟩))
      refine wp_name fun W1 hW1 => ?_
      have hbW : Below W0.heap.size W0 W1 := by rw [hW1]; exact hb1.alloc hb1.size _
      have HRW1 := Lib.hid (HRW0.out.below hbW)
      have HBW1 := Lib.hid (below_step HBW0.out hbW)
      have hsw1 := hb1.size
      have hsW1 : W1.heap.size = w1.heap.size + 1 := by rw [hW1]; simp
      clear hW1 hbW hb1 ho1
      go_upto_region 4 with (go_at_call 45; (refine (refMapOpen_is m (F + 1) gen blocks t true HM.out _ _ _ (HBM.out.below HBW1.out) hg).mono ?_); (rintro e w2 ⟨⟨b2, d2, rfl, ho2⟩, hb2⟩))
      refine wp_name fun W2 hW2 => ?_
      have hbW : Below W1.heap.size W1 W2 := by rw [hW2]; exact hb2.alloc hb2.size _
      have HRW2 := Lib.hid (HRW1.out.below hbW)
      have HBW2 := Lib.hid (below_step HBW1.out hbW)
      have HMt2 := Lib.hid (show BoxAt W2 w2.heap.size [.int .u64 (t.gen : Int), .int .i64 t.blocks, .slice b2 t.used.length d2] by rw [hW2]; exact BoxAt.new w2 [_, _, _] _)
      have HOt2 := Lib.hid (show OwnI W2 W1.heap.size (.slice b2 t.used.length d2) t.used by rw [hW2]; exact ho2.alloc _)
      have hsw2 := hb2.size
      have hsW2 : W2.heap.size = w2.heap.size + 1 := by rw [hW2]; simp
      clear hW2 hbW hb2 ho2
      have hls := HRW0.out.lt
      obtain ⟨m0, m1, m2⟩ := HRW2.out.three
      have f0 := HRW2.out.free 0 _ rfl
      have f1 := HRW2.out.free 1 _ rfl
      have f2 := HRW2.out.free 2 _ rfl
      have k0 : w.heap.size < W2.heap.size := by omega
      have k1 : ¬ W2.heap.size = w.heap.size := Nat.ne_of_gt k0
      have k2 : ¬ w.heap.size = W2.heap.size := Nat.ne_of_lt k0
      have kk1 := HRW1.out.lt
      clear hsW1 hsW2 hsw1 hsw2
      obtain ⟨s0, s1, s2⟩ := HMt2.out.three
      go_wp2_with fail
      have hb := HBW2.out
      refine bodyPost_ret (v := .tuple #[mapV t (.slice b2 t.used.length d2), .slice (some ⟨W2.heap.size, 0, none⟩) 1 1, .bool true]) (by simp [results, Tryd.results48, go_sem, m0, m1, m2, mapV, Bm.zero, k0, k1, k2]) rfl ?_
      rw [HT.out]
      refine ⟨⟨b2, d2, _, rfl, ((((HOt2.out.keep (grownBy_set (World.grownBy.refl _ (some w.heap.size)) 0 _) (by omega)).keep (grownBy_set (World.grownBy.refl _ (some w.heap.size)) 1 _) (by omega)).keep (grownBy_set (World.grownBy.refl _ (some w.heap.size)) 2 _) (by omega)).alloc _).mono (by omega), ?_⟩, by go_grown⟩
      exact box_int (BoxAt.newAt _ W2.heap.size (by simp) [.int .i64 F] _)
  | some s =>
    cases hm : Bm.bmOpen m (F + 1) gen blocks with
    | none =>
      have HL := Lib.hid (refMap_some (l := l) hl)
      have HM := Lib.hid (refMap_none (l := m) hm)
      have HT : Hid (mapChooseT l m gen blocks = (s, [F + 1], 0)) := Lib.hid (by rw [HCH.out, hl, hm])
      clear hl hm
      go_enter Tryd.func48, Tryd.ntmps48
      go_upto_region 2 with (go_at_call 42; (refine (refFirst_is gen F HF.out hg _).mono ?_); (rintro e w0 ⟨rfl, rfl⟩))
      refine wp_name fun W0 hW0 => ?_
      have HRW0 := Lib.hid (show BoxAt W0 w.heap.size [.int .u64 0, .int .i64 0, .slice none 0 0] by rw [hW0]; exact BoxAt.new w [_, _, _] _)
      have HBW0 := Lib.hid (show Below w.heap.size w W0 by rw [hW0]; go_grown)
      clear hW0
      go_upto_region 3 with (go_at_call 45; (refine (refMapOpen_is l F gen blocks s true HL.out _ _ _ (HBL.out.below HBW0.out) hg).mono ?_); (rintro e w1 ⟨⟨b1, d1, rfl, ho1⟩, hb1⟩))
      refine wp_name fun W1 hW1 => ?_
      have hbW : Below W0.heap.size W0 W1 := by rw [hW1]; exact hb1.alloc hb1.size _
      have HRW1 := Lib.hid (HRW0.out.below hbW)
      have HBW1 := Lib.hid (below_step HBW0.out hbW)
      have HMs1 := Lib.hid (show BoxAt W1 w1.heap.size [.int .u64 (s.gen : Int), .int .i64 s.blocks, .slice b1 s.used.length d1] by rw [hW1]; exact BoxAt.new w1 [_, _, _] _)
      have HOs1 := Lib.hid (show OwnI W1 W0.heap.size (.slice b1 s.used.length d1) s.used by rw [hW1]; exact ho1.alloc _)
      have hsw1 := hb1.size
      have hsW1 : W1.heap.size = w1.heap.size + 1 := by rw [hW1]; simp
      clear hW1 hbW hb1 ho1
      go_upto_region 4 with (go_at_call 45; (refine (refMapOpen_is m (F + 1) gen blocks Bm.zero false HM.out _ _ _ (HBM.out.below HBW1.out) hg).mono ?_); (rintro e w2 ⟨⟨b2, d2, rfl, ho2⟩, hb2⟩))
      refine wp_name fun W2 hW2 => ?_
      have hbW : Below W1.heap.size W1 W2 := by rw [hW2]; exact hb2.alloc hb2.size _
      have HRW2 := Lib.hid (HRW1.out.below hbW)
      have HBW2 := Lib.hid (below_step HBW1.out hbW)
      have HMs2 := Lib.hid (HMs1.out.below hbW)
      have HOs2 := Lib.hid (HOs1.out.below hbW (Nat.le_refl _))
      have hsw2 := hb2.size
      have hsW2 : W2.heap.size = w2.heap.size + 1 := by rw [hW2]; simp
      clear hW2 hbW hb2 ho2
      have hls := HRW0.out.lt
      obtain ⟨m0, m1, m2⟩ := HRW2.out.three
      have f0 := HRW2.out.free 0 _ rfl
      have f1 := HRW2.out.free 1 _ rfl
      have f2 := HRW2.out.free 2 _ rfl
      have k0 : w.heap.size < W2.heap.size := by omega
      have k1 : ¬ W2.heap.size = w.heap.size := Nat.ne_of_gt k0
      have k2 : ¬ w.heap.size = W2.heap.size := Nat.ne_of_lt k0
      have kk1 := HRW1.out.lt
      clear hsW1 hsW2 hsw1 hsw2
      obtain ⟨s0, s1, s2⟩ := HMs2.out.three
      go_wp2_with fail
      have hb := HBW2.out
      refine bodyPost_ret (v := .tuple #[mapV s (.slice b1 s.used.length d1), .slice (some ⟨W2.heap.size, 0, none⟩) 1 1, .bool true]) (by simp [results, Tryd.results48, go_sem, m0, m1, m2, mapV, Bm.zero, k0, k1, k2]) rfl ?_
      rw [HT.out]
      refine ⟨⟨b1, d1, _, rfl, ((((HOs2.out.keep (grownBy_set (World.grownBy.refl _ (some w.heap.size)) 0 _) (by omega)).keep (grownBy_set (World.grownBy.refl _ (some w.heap.size)) 1 _) (by omega)).keep (grownBy_set (World.grownBy.refl _ (some w.heap.size)) 2 _) (by omega)).alloc _).mono (by omega), ?_⟩, by go_grown⟩
      exact box_int (BoxAt.newAt _ W2.heap.size (by simp) [.int .i64 (F + 1)] _)
    | some t =>
      have HL := Lib.hid (refMap_some (l := l) hl)
      have HM := Lib.hid (refMap_some (l := m) hm)
      have HT : Hid (mapChooseT l m gen blocks = (s, [], 0)) := Lib.hid (by rw [HCH.out, hl, hm])
      clear hl hm
      go_enter Tryd.func48, Tryd.ntmps48
      go_upto_region 2 with (go_at_call 42; (refine (refFirst_is gen F HF.out hg _).mono ?_); (rintro e w0 ⟨rfl, rfl⟩))
      refine wp_name fun W0 hW0 => ?_
      have HRW0 := Lib.hid (show BoxAt W0 w.heap.size [.int .u64 0, .int .i64 0, .slice none 0 0] by rw [hW0]; exact BoxAt.new w [_, _, _] _)
      have HBW0 := Lib.hid (show Below w.heap.size w W0 by rw [hW0]; go_grown)
      clear hW0
      go_upto_region 3 with (go_at_call 45; (refine (refMapOpen_is l F gen blocks s true HL.out _ _ _ (HBL.out.below HBW0.out) hg).mono ?_); (rintro e w1 ⟨⟨b1, d1, rfl, ho1⟩, hb1⟩))
      refine wp_name fun W1 hW1 => ?_
      have hbW : Below W0.heap.size W0 W1 := by rw [hW1]; exact hb1.alloc hb1.size _
      have HRW1 := Lib.hid (HRW0.out.below hbW)
      have HBW1 := Lib.hid (below_step HBW0.out hbW)
      have HMs1 := Lib.hid (show BoxAt W1 w1.heap.size [.int .u64 (s.gen : Int), .int .i64 s.blocks, .slice b1 s.used.length d1] by rw [hW1]; exact BoxAt.new w1 [_, _, _] _)
      have HOs1 := Lib.hid (show OwnI W1 W0.heap.size (.slice b1 s.used.length d1) s.used by rw [hW1]; exact ho1.alloc _)
      have hsw1 := hb1.size
      have hsW1 : W1.heap.size = w1.heap.size + 1 := by rw [hW1]; simp
      clear hW1 hbW hb1 ho1
      go_upto_region 4 with (go_at_call 45; (refine (refMapOpen_is m (F + 1) gen blocks t true HM.out _ _ _ (HBM.out.below HBW1.out) hg).mono ?_); (rintro e w2 ⟨⟨b2, d2, rfl, ho2⟩, hb2⟩))
      refine wp_name fun W2 hW2 => ?_
      have hbW : Below W1.heap.size W1 W2 := by rw [hW2]; exact hb2.alloc hb2.size _
      have HRW2 := Lib.hid (HRW1.out.below hbW)
      have HBW2 := Lib.hid (below_step HBW1.out hbW)
      have HMs2 := Lib.hid (HMs1.out.below hbW)
      have HOs2 := Lib.hid (HOs1.out.below hbW (Nat.le_refl _))
      have HMt2 := Lib.hid (show BoxAt W2 w2.heap.size [.int .u64 (t.gen : Int), .int .i64 t.blocks, .slice b2 t.used.length d2] by rw [hW2]; exact BoxAt.new w2 [_, _, _] _)
      have HOt2 := Lib.hid (show OwnI W2 W1.heap.size (.slice b2 t.used.length d2) t.used by rw [hW2]; exact ho2.alloc _)
      have hsw2 := hb2.size
      have hsW2 : W2.heap.size = w2.heap.size + 1 := by rw [hW2]; simp
      clear hW2 hbW hb2 ho2
      have hls := HRW0.out.lt
      obtain ⟨m0, m1, m2⟩ := HRW2.out.three
      have f0 := HRW2.out.free 0 _ rfl
      have f1 := HRW2.out.free 1 _ rfl
      have f2 := HRW2.out.free 2 _ rfl
      have k0 : w.heap.size < W2.heap.size := by omega
      have k1 : ¬ W2.heap.size = w.heap.size := Nat.ne_of_gt k0
      have k2 : ¬ w.heap.size = W2.heap.size := Nat.ne_of_lt k0
      have kk1 := HRW1.out.lt
      clear hsW1 hsW2 hsw1 hsw2
      obtain ⟨s0, s1, s2⟩ := HMs2.out.three
      go_wp2_with fail
      have hb := HBW2.out
      refine bodyPost_ret (v := .tuple #[mapV s (.slice b1 s.used.length d1), .slice none 0 0, .bool true]) (by simp [results, Tryd.results48, go_sem, m0, m1, m2, mapV, Bm.zero, k0, k1, k2]) rfl ?_
      rw [HT.out]
      refine ⟨⟨b1, d1, _, rfl, (((HOs2.out.keep (grownBy_set (World.grownBy.refl _ (some w.heap.size)) 0 _) (by omega)).keep (grownBy_set (World.grownBy.refl _ (some w.heap.size)) 1 _) (by omega)).keep (grownBy_set (World.grownBy.refl _ (some w.heap.size)) 2 _) (by omega)).mono (by omega), ?_⟩, by go_grown⟩
      exact IntsAt.nil _
end Go.Proofs.YtlobelfnjabajaaDoor
