/- merged: RefBlk6, RefBlk7, RefBlk8 -/
import Derived.Test.YtflbioiildndoaaGreatDoorQ9
/- the document's disks: Put (printed by wip/tools/gen_refput.py) -/
namespace Go.Proofs.YtflbioiildndoaaGreatDoor
open Go.RowKit
set_option linter.unusedVariables false
set_option linter.unusedSimpArgs false

theorem refBurns4_any {G : Nat → Prop} {w : World} {n : Nat} {d E : Bk.Disk} {k : Nat} {v : Value} (hE : Bk.burns d = (E, k)) (hr : RefAt G w v d) (ho : Bk.Ok n d) (hG : Held G w) :
    Calls Tryz.prog 52 #[v] w fun e w' => GivesRC G w E k e w' ∧ Below w.heap.size w w' := by
  unfold Bk.burns at hE
  by_cases hb : Bk.blows d
  · rw [if_pos hb] at hE
    obtain ⟨h1, rfl⟩ := Prod.mk.inj hE
    exact refBurns4_blow' h1 hr ho hG hb
  · rw [if_neg hb] at hE
    obtain ⟨h1, rfl⟩ := Prod.mk.inj hE
    exact refBurns4_tick' h1 hr hG hb
/-- one write more, in the document's disk -/
theorem DiskR.addWait {G G' : Nat → Prop} {w w' : World} {d : Bk.Disk} {lv wv wv' kv : Value} {xs : List Sl3} {ys : List (Int × Sl3)} (h : DiskR G w d lv wv kv xs ys) (on : ∀ k, G k → w'.heap[k]? = w.heap[k]?) (hG : ∀ k, G k → G' k) {i : Nat} {y : Sl3} {b : Bk.Blk}
    (hrow : RowAt eWr w' wv' (ys ++ [((i : Int), y)])) (hwG : InG G' wv') (hy : BytesAt w' (.slice y.1 y.2.1 y.2.2) b) (hyG : InG G' (.slice y.1 y.2.1 y.2.2)) : DiskR G' w' (waits d i b) lv wv' kv xs (ys ++ [((i : Int), y)]) := by
  have h' := (h.on on).mono hG
  refine ⟨h'.last, hrow, h'.keep, h'.lastG, hwG, h'.keepG, h'.xlen, h'.xeach, by simp [waits, h.ylen], fun j u z hu hz => ?_⟩
  simp only [waits] at hz
  rw [List.getElem?_append] at hu hz
  rw [h.ylen] at hu
  split at hu
  · rename_i hj
    rw [if_pos hj] at hz
    exact h'.yeach j u z hu hz
  · rename_i hj
    rw [if_neg hj] at hz
    rw [List.getElem?_singleton] at hu hz
    split at hu
    · rename_i hj0
      rw [if_pos hj0] at hz
      cases hu; cases hz
      exact ⟨rfl, hy, hyG⟩
    · cases hu

set_option maxRecDepth 100000 in
set_option maxHeartbeats 1000000 in
theorem refPut4_out {G : Nat → Prop} {w : World} {d : Bk.Disk} {v : Value} (hr : RefAt G w v d) (hG : Held G w) (i : Int) (hi : ¬ Bk.In d i) (bv : Value) :
    Calls Tryz.prog 31 #[v, .int .i64 i, bv] w fun e w' => GivesRC G w d 2 e w' ∧ Below w.heap.size w w' := by
  obtain ⟨lv, wv, kv, xs, ys, rfl, h⟩ := hr
  obtain ⟨la, lc, wa, wc, ka, kc, rfl, rfl, rfl⟩ := h.shape
  have H := Lib.hid h
  have HG := Lib.hid hG
  have HV := Lib.hid (show refD d (.slice la xs.length lc) (.slice wa ys.length wc) (.slice ka d.keep.length kc) = .agg #[.int .i64 (d.blocks : Int), .int .i64 (d.size : Int), .slice la xs.length lc, .slice wa ys.length wc, .bool d.lit, .int .i64 d.after, .int .i64 d.torn, .int .i64 d.cut, .slice ka d.keep.length kc, .bool d.off, .int .i64 d.count] by unfold refD; first | rw [hoff] | rfl)
  have hin := fun w0 => refIn4_is d (.slice la xs.length lc) (.slice wa ys.length wc) (.slice ka d.keep.length kc) i false (decide_eq_false hi) w0
  simp only [HV.out] at hin
  rw [HV.out]
  have HIN := Lib.hid hin
  clear h hG hin hi
  go_enter Tryz.func31, Tryz.ntmps31
  go_upto_region 1 with fail
  refine wp_name fun W hW => ?_
  have HX := Lib.hid (show BoxAt W w.heap.size [.int .i64 (d.blocks : Int), .int .i64 (d.size : Int), .slice la xs.length lc, .slice wa ys.length wc, .bool d.lit, .int .i64 d.after, .int .i64 d.torn, .int .i64 d.cut, .slice ka d.keep.length kc, .bool d.off, .int .i64 d.count] by rw [hW]; exact (BoxAt.new w [_, _, _, _, _, _, _, _, _, _, _] _).alloc _)
  have HY := Lib.hid (show BoxAt W (w.heap.size + 1) zeroD by rw [hW]; exact BoxAt.newAt _ _ (by simp) [_, _, _, _, _, _, _, _, _, _, _] _)
  have HBW := Lib.hid (show Below w.heap.size w W by rw [hW]; go_grown)
  have hW2 : w.heap.size + 1 < W.heap.size := HY.out.lt
  clear hW
  obtain ⟨x0, x1, x2, x3, x4, x5, x6, x7, x8, x9, x10⟩ := HX.out.eleven
  go_wp2_with (go_at_call 51; (refine (HIN.out _).mono ?_); (rintro e w1 ⟨rfl, hb1⟩); (have HB1 := Lib.hid hb1); (have HX1 := Lib.hid (HX.out.below hb1)); (have HY1 := Lib.hid (HY.out.below hb1)); (clear hb1 x0 x1 x2 x3 x4 x5 x6 x7 x8 x9 x10); (obtain ⟨x0, x1, x2, x3, x4, x5, x6, x7, x8, x9, x10⟩ := HX1.out.eleven); (obtain ⟨fx0, fx1, fx2, fx3, fx4, fx5, fx6, fx7, fx8, fx9, fx10⟩ := HX1.out.elevenF); (obtain ⟨y0, y1, y2, y3, y4, y5, y6, y7, y8, y9, y10⟩ := HY1.out.eleven); (obtain ⟨fy0, fy1, fy2, fy3, fy4, fy5, fy6, fy7, fy8, fy9, fy10⟩ := HY1.out.elevenF))
  refine bodyPost_ret (v := .tuple #[refD d (.slice la xs.length lc) (.slice wa ys.length wc) (.slice ka d.keep.length kc), .int .i64 2]) (by rw [HV.out]; simp [results, Tryz.results31, go_sem, y0, y1, y2, y3, y4, y5, y6, y7, y8, y9, y10]) rfl ?_
  refine GivesRC.of H.out HG.out ?_
  have h1 := HBW.out.trans (HB1.out.mono HBW.out.size)
  repeat (first | refine Below.setCell ?_ (by first | exact Nat.le_refl _ | exact Nat.le_succ _) _ | exact h1)

set_option maxRecDepth 100000 in
set_option maxHeartbeats 1000000 in
theorem refPut4_off {G : Nat → Prop} {w : World} {d : Bk.Disk} {v : Value} (hr : RefAt G w v d) (hG : Held G w) (i : Int) (hi : Bk.In d i) (hoff : d.off = true) (bv : Value) :
    Calls Tryz.prog 31 #[v, .int .i64 i, bv] w fun e w' => GivesRC G w d 7 e w' ∧ Below w.heap.size w w' := by
  obtain ⟨lv, wv, kv, xs, ys, rfl, h⟩ := hr
  obtain ⟨la, lc, wa, wc, ka, kc, rfl, rfl, rfl⟩ := h.shape
  have H := Lib.hid h
  have HG := Lib.hid hG
  have HV := Lib.hid (show refD d (.slice la xs.length lc) (.slice wa ys.length wc) (.slice ka d.keep.length kc) = .agg #[.int .i64 (d.blocks : Int), .int .i64 (d.size : Int), .slice la xs.length lc, .slice wa ys.length wc, .bool d.lit, .int .i64 d.after, .int .i64 d.torn, .int .i64 d.cut, .slice ka d.keep.length kc, .bool true, .int .i64 d.count] by unfold refD; first | rw [hoff] | rfl)
  have hin := fun w0 => refIn4_is d (.slice la xs.length lc) (.slice wa ys.length wc) (.slice ka d.keep.length kc) i true (decide_eq_true hi) w0
  simp only [HV.out] at hin
  rw [HV.out]
  have HIN := Lib.hid hin
  clear h hG hin hi hoff
  go_enter Tryz.func31, Tryz.ntmps31
  go_upto_region 1 with fail
  refine wp_name fun W hW => ?_
  have HX := Lib.hid (show BoxAt W w.heap.size [.int .i64 (d.blocks : Int), .int .i64 (d.size : Int), .slice la xs.length lc, .slice wa ys.length wc, .bool d.lit, .int .i64 d.after, .int .i64 d.torn, .int .i64 d.cut, .slice ka d.keep.length kc, .bool true, .int .i64 d.count] by rw [hW]; exact (BoxAt.new w [_, _, _, _, _, _, _, _, _, _, _] _).alloc _)
  have HY := Lib.hid (show BoxAt W (w.heap.size + 1) zeroD by rw [hW]; exact BoxAt.newAt _ _ (by simp) [_, _, _, _, _, _, _, _, _, _, _] _)
  have HBW := Lib.hid (show Below w.heap.size w W by rw [hW]; go_grown)
  have hW2 : w.heap.size + 1 < W.heap.size := HY.out.lt
  clear hW
  obtain ⟨x0, x1, x2, x3, x4, x5, x6, x7, x8, x9, x10⟩ := HX.out.eleven
  go_wp2_with (go_at_call 51; (refine (HIN.out _).mono ?_); (rintro e w1 ⟨rfl, hb1⟩); (have HB1 := Lib.hid hb1); (have HX1 := Lib.hid (HX.out.below hb1)); (have HY1 := Lib.hid (HY.out.below hb1)); (clear hb1 x0 x1 x2 x3 x4 x5 x6 x7 x8 x9 x10); (obtain ⟨x0, x1, x2, x3, x4, x5, x6, x7, x8, x9, x10⟩ := HX1.out.eleven); (obtain ⟨fx0, fx1, fx2, fx3, fx4, fx5, fx6, fx7, fx8, fx9, fx10⟩ := HX1.out.elevenF); (obtain ⟨y0, y1, y2, y3, y4, y5, y6, y7, y8, y9, y10⟩ := HY1.out.eleven); (obtain ⟨fy0, fy1, fy2, fy3, fy4, fy5, fy6, fy7, fy8, fy9, fy10⟩ := HY1.out.elevenF))
  refine bodyPost_ret (v := .tuple #[refD d (.slice la xs.length lc) (.slice wa ys.length wc) (.slice ka d.keep.length kc), .int .i64 7]) (by rw [HV.out]; simp [results, Tryz.results31, go_sem, y0, y1, y2, y3, y4, y5, y6, y7, y8, y9, y10]) rfl ?_
  refine GivesRC.of H.out HG.out ?_
  have h1 := HBW.out.trans (HB1.out.mono HBW.out.size)
  repeat (first | refine Below.setCell ?_ (by first | exact Nat.le_refl _ | exact Nat.le_succ _) _ | exact h1)

set_option maxRecDepth 100000 in
set_option maxHeartbeats 1000000 in
theorem refPut4_form {G : Nat → Prop} {w : World} {d : Bk.Disk} {v : Value} (hr : RefAt G w v d) (hG : Held G w) (i : Int) (hi : Bk.In d i) (hoff : d.off = false) (a : Option Addr) (c : Nat) (b : Bk.Blk) (hl : b.length ≠ d.size) :
    Calls Tryz.prog 31 #[v, .int .i64 i, .slice a b.length c] w fun e w' => GivesRC G w d 1 e w' ∧ Below w.heap.size w w' := by
  have hbe : ((b.length : Int) != (d.size : Int)) = true := by simp; omega
  obtain ⟨lv, wv, kv, xs, ys, rfl, h⟩ := hr
  obtain ⟨la, lc, wa, wc, ka, kc, rfl, rfl, rfl⟩ := h.shape
  have H := Lib.hid h
  have HG := Lib.hid hG
  have HV := Lib.hid (show refD d (.slice la xs.length lc) (.slice wa ys.length wc) (.slice ka d.keep.length kc) = .agg #[.int .i64 (d.blocks : Int), .int .i64 (d.size : Int), .slice la xs.length lc, .slice wa ys.length wc, .bool d.lit, .int .i64 d.after, .int .i64 d.torn, .int .i64 d.cut, .slice ka d.keep.length kc, .bool false, .int .i64 d.count] by unfold refD; first | rw [hoff] | rfl)
  have hin := fun w0 => refIn4_is d (.slice la xs.length lc) (.slice wa ys.length wc) (.slice ka d.keep.length kc) i true (decide_eq_true hi) w0
  simp only [HV.out] at hin
  rw [HV.out]
  have HIN := Lib.hid hin
  clear h hG hin hi hoff hl
  go_enter Tryz.func31, Tryz.ntmps31
  go_upto_region 1 with fail
  refine wp_name fun W hW => ?_
  have HX := Lib.hid (show BoxAt W w.heap.size [.int .i64 (d.blocks : Int), .int .i64 (d.size : Int), .slice la xs.length lc, .slice wa ys.length wc, .bool d.lit, .int .i64 d.after, .int .i64 d.torn, .int .i64 d.cut, .slice ka d.keep.length kc, .bool false, .int .i64 d.count] by rw [hW]; exact (BoxAt.new w [_, _, _, _, _, _, _, _, _, _, _] _).alloc _)
  have HY := Lib.hid (show BoxAt W (w.heap.size + 1) zeroD by rw [hW]; exact BoxAt.newAt _ _ (by simp) [_, _, _, _, _, _, _, _, _, _, _] _)
  have HBW := Lib.hid (show Below w.heap.size w W by rw [hW]; go_grown)
  have hW2 : w.heap.size + 1 < W.heap.size := HY.out.lt
  clear hW
  obtain ⟨x0, x1, x2, x3, x4, x5, x6, x7, x8, x9, x10⟩ := HX.out.eleven
  go_wp2_with (go_at_call 51; (refine (HIN.out _).mono ?_); (rintro e w1 ⟨rfl, hb1⟩); (have HB1 := Lib.hid hb1); (have HX1 := Lib.hid (HX.out.below hb1)); (have HY1 := Lib.hid (HY.out.below hb1)); (clear hb1 x0 x1 x2 x3 x4 x5 x6 x7 x8 x9 x10); (obtain ⟨x0, x1, x2, x3, x4, x5, x6, x7, x8, x9, x10⟩ := HX1.out.eleven); (obtain ⟨fx0, fx1, fx2, fx3, fx4, fx5, fx6, fx7, fx8, fx9, fx10⟩ := HX1.out.elevenF); (obtain ⟨y0, y1, y2, y3, y4, y5, y6, y7, y8, y9, y10⟩ := HY1.out.eleven); (obtain ⟨fy0, fy1, fy2, fy3, fy4, fy5, fy6, fy7, fy8, fy9, fy10⟩ := HY1.out.elevenF))
  refine bodyPost_ret (v := .tuple #[refD d (.slice la xs.length lc) (.slice wa ys.length wc) (.slice ka d.keep.length kc), .int .i64 1]) (by rw [HV.out]; simp [results, Tryz.results31, go_sem, y0, y1, y2, y3, y4, y5, y6, y7, y8, y9, y10]) rfl ?_
  refine GivesRC.of H.out HG.out ?_
  have h1 := HBW.out.trans (HB1.out.mono HBW.out.size)
  repeat (first | refine Below.setCell ?_ (by first | exact Nat.le_refl _ | exact Nat.le_succ _) _ | exact h1)

set_option maxRecDepth 100000 in
set_option maxHeartbeats 1000000 in
theorem refPut4_in {G : Nat → Prop} {w : World} {n : Nat} {d E : Bk.Disk} {k : Nat} {v : Value} (hr : RefAt G w v d) (ho : Bk.Ok n d) (hG : Held G w) (i : Nat) (hi : i < d.blocks) (hoff : d.off = false) (b : Bk.Blk) (bv : Value) (hb : BytesAt w bv b) (hbl : b.length = d.size) (hn : n ≤ 1000) (hE : Bk.burns (waits d i b) = (E, k)) :
    Calls Tryz.prog 31 #[v, .int .i64 (i : Int), bv] w fun e w' => GivesRC G w E k e w' ∧ Below w.heap.size w w' := by
  obtain ⟨ba, bc, rfl, -, -, -⟩ := id hb
  have HO := Lib.hid ho
  have HOFF := Lib.hid hoff
  have HE := Lib.hid hE
  have HI := Lib.hid hi
  have HB := Lib.hid hb
  have HBL := Lib.hid hbl
  have hbe : ((b.length : Int) != (d.size : Int)) = false := by simp; omega
  obtain ⟨lv, wv, kv, xs, ys, rfl, h⟩ := hr
  obtain ⟨la, lc, wa, wc, ka, kc, rfl, rfl, rfl⟩ := h.shape
  have H := Lib.hid h
  have HG := Lib.hid hG
  have HV := Lib.hid (show refD d (.slice la xs.length lc) (.slice wa ys.length wc) (.slice ka d.keep.length kc) = .agg #[.int .i64 (d.blocks : Int), .int .i64 (d.size : Int), .slice la xs.length lc, .slice wa ys.length wc, .bool d.lit, .int .i64 d.after, .int .i64 d.torn, .int .i64 d.cut, .slice ka d.keep.length kc, .bool false, .int .i64 d.count] by unfold refD; first | rw [hoff] | rfl)
  have hin := fun w0 => refIn4_is d (.slice la xs.length lc) (.slice wa ys.length wc) (.slice ka d.keep.length kc) (i : Int) true (decide_eq_true (show Bk.In d (i : Int) from ⟨by omega, by omega⟩)) w0
  simp only [HV.out] at hin
  rw [HV.out]
  have HIN := Lib.hid hin
  clear h hG hin ho hoff hE hi hb hbl
  go_enter Tryz.func31, Tryz.ntmps31
  go_upto_region 1 with fail
  refine wp_name fun W hW => ?_
  have HX := Lib.hid (show BoxAt W w.heap.size [.int .i64 (d.blocks : Int), .int .i64 (d.size : Int), .slice la xs.length lc, .slice wa ys.length wc, .bool d.lit, .int .i64 d.after, .int .i64 d.torn, .int .i64 d.cut, .slice ka d.keep.length kc, .bool false, .int .i64 d.count] by rw [hW]; exact (BoxAt.new w [_, _, _, _, _, _, _, _, _, _, _] _).alloc _)
  have HY := Lib.hid (show BoxAt W (w.heap.size + 1) zeroD by rw [hW]; exact BoxAt.newAt _ _ (by simp) [_, _, _, _, _, _, _, _, _, _, _] _)
  have HBW := Lib.hid (show Below w.heap.size w W by rw [hW]; go_grown)
  have hW2 : w.heap.size + 1 < W.heap.size := HY.out.lt
  clear hW
  obtain ⟨x0, x1, x2, x3, x4, x5, x6, x7, x8, x9, x10⟩ := HX.out.eleven
  go_upto_region 7 with (go_at_call 51; (refine (HIN.out _).mono ?_); (rintro e w1 ⟨rfl, hb1⟩); (have HB1 := Lib.hid hb1); (have HX1 := Lib.hid (HX.out.below hb1)); (have HY1 := Lib.hid (HY.out.below hb1)); (clear hb1 x0 x1 x2 x3 x4 x5 x6 x7 x8 x9 x10); (obtain ⟨x0, x1, x2, x3, x4, x5, x6, x7, x8, x9, x10⟩ := HX1.out.eleven); (obtain ⟨fx0, fx1, fx2, fx3, fx4, fx5, fx6, fx7, fx8, fx9, fx10⟩ := HX1.out.elevenF); (obtain ⟨y0, y1, y2, y3, y4, y5, y6, y7, y8, y9, y10⟩ := HY1.out.eleven); (obtain ⟨fy0, fy1, fy2, fy3, fy4, fy5, fy6, fy7, fy8, fy9, fy10⟩ := HY1.out.elevenF))
  have HWT := Lib.hid ((H.out.wait.below HBW.out).below HB1.out)
  have hs1 : w.heap.size < w1.heap.size := by have := HB1.out.size; omega
  have hs2 : w.heap.size + 1 < w1.heap.size := by have := HB1.out.size; omega
  have hyl : ys.length ≤ 1000 := by have := HO.out.many; have := H.out.ylen; omega
  go_upto_region 8 with (at_builtin; (refine wpList_append_row eWr eWr_ok rfl (.tmp 24) (.tmp 26) rfl w1.heap.size _ [] rfl (OwnR.empty w1 _ (Nat.le_refl _)) _ ys rfl (HWT.out.alloc _) (by simp; omega) (by simp; omega) (by simp) ?_); (intro v3 w3 ho3 hg3 hn3))
  have hb3 : Below w1.heap.size w1 w3 := ((Below.refl _ _).alloc (Nat.le_refl _) _).grown hg3 (by simp) (by intro k hk; cases hk; exact Nat.le_refl _)
  obtain ⟨a3, c3, rfl, -, -⟩ := ho3.slice
  have HO3 := Lib.hid (show OwnR eWr w3 w1.heap.size (.slice a3 ys.length c3) ys from ho3)
  have HB3 := Lib.hid hb3
  have HX3 := Lib.hid (HX1.out.below hb3)
  have HY3 := Lib.hid (HY1.out.below hb3)
  have HBY := Lib.hid (((HB.out.below HBW.out).below HB1.out).below hb3)
  have hs3 : w1.heap.size ≤ w3.heap.size := hb3.size
  have hbl2 : b.length ≤ 100000 := by have := HBL.out; have := HO.out.s; omega
  clear ho3 hg3 hn3 hb3 x0 x1 x2 x3 x4 x5 x6 x7 x8 x9 x10 fx0 fx1 fx2 fx3 fx4 fx5 fx6 fx7 fx8 fx9 fx10 y0 y1 y2 y3 y4 y5 y6 y7 y8 y9 y10 fy0 fy1 fy2 fy3 fy4 fy5 fy6 fy7 fy8 fy9 fy10
  go_upto_region 9 with (first
    | (at_builtin; (refine wpList_append_bytes rfl (.tmp 30) (.tmp 31) rfl w3.heap.size _ [] rfl (Own.empty w3 _ (Nat.le_refl _)) _ b rfl (HBY.out.alloc _) (by simp; omega) (by simp) ?_); (intro v4 w4 ho4 hg4 hn4); (obtain ⟨a4, c4, rfl, -, -⟩ := ho4.slice); (have HB4 := Lib.hid (((Below.refl w3.heap.size w3).alloc (Nat.le_refl _) (.cells #[] 5)).grown hg4 (by simp) (by intro k hk; cases hk; exact Nat.le_refl _))); (have HO4 := Lib.hid (show Own w4 w3.heap.size (.slice a4 b.length c4) b from ho4)); (have hs4 : w3.heap.size ≤ w4.heap.size := HB4.out.size); (clear ho4 hg4 hn4))
    | (at_builtin; (refine wpList_append_row eWr eWr_ok rfl (.tmp 28) (.tmp 34) rfl w1.heap.size _ ys rfl ((HO3.out.below HB4.out (Nat.le_refl _)).alloc _) _ [((i : Int), a4, b.length, c4)] rfl (RowAt.one w4 ((i : Int), a4, b.length, c4) #[.int .i64 (i : Int), .slice a4 b.length c4] 105 rfl _ rfl) (by simp; omega) (by simp; omega) (by simp; omega) ?_); (intro v5 w5 ho5 hg5 hn5); (obtain ⟨a5, c5, rfl, -, -⟩ := ho5.slice); (have HB5 := Lib.hid (((Below.refl w4.heap.size w4).alloc (Nat.le_refl _) (.cells #[.int .i64 (i : Int), .slice a4 b.length c4] 105)))); (have HG5 := Lib.hid (show World.grownBy _ w5 (Value.slice a3 ys.length c3).ownBlock from hg5)); (have HO5 := Lib.hid (show OwnR eWr w5 w1.heap.size (.slice a5 (ys.length + 1) c5) _ by simpa using ho5)); (have HX5 := Lib.hid (((HX3.out.below HB4.out).below HB5.out).grownR hg5 (HO3.out.ne_row hs1))); (have HY5 := Lib.hid (((HY3.out.below HB4.out).below HB5.out).grownR hg5 (HO3.out.ne_row hs2))); (have x3 := HX5.out.at 3 _ rfl); (have fx3 := HX5.out.free 3 _ rfl); (clear ho5 hg5 hn5)))
  refine wp_name fun V hV => ?_
  have hxv : BoxAt V w.heap.size [.int .i64 (d.blocks : Int), .int .i64 (d.size : Int), .slice la xs.length lc, .slice a5 (ys.length + 1) c5, .bool d.lit, .int .i64 d.after, .int .i64 d.torn, .int .i64 d.cut, .slice ka d.keep.length kc, .bool false, .int .i64 d.count] := by rw [hV]; exact HX5.out.put 3 _
  have hgv : w5.grownBy V (some w.heap.size) := by rw [hV]; exact grownBy_set (World.grownBy.refl _ _) _ _
  have HXV := Lib.hid hxv
  have HGV := Lib.hid hgv
  have HYV := Lib.hid (HY5.out.grownR hgv (by simp))
  clear hV hxv hgv x3 fx3
  have hs5 : w4.heap.size < w5.heap.size := by have := HG5.out.size; simp at this; omega
  have hsV : w5.heap.size ≤ V.heap.size := HGV.out.size
  have hall : Below w.heap.size w V := ((((((HBW.out.trans (HB1.out.mono HBW.out.size)).trans (HB3.out.mono (by omega))).trans (HB4.out.mono (by omega))).trans (HB5.out.mono (by omega))).grown HG5.out (by simp; omega) (fun k hk => by have := (HO3.out.lt k hk).1; omega))).grown HGV.out (by omega) (by intro k hk; cases hk; exact Nat.le_refl _)
  have hGm : ∀ k, (G k ∨ (w1.heap.size ≤ k ∧ k < V.heap.size)) → k ≠ w.heap.size ∧ k ≠ w.heap.size + 1 ∧ k < V.heap.size := fun k hk => by
    rcases hk with h | h
    · have := HG.out k h; omega
    · omega
  have hrow : RowAt eWr V (.slice a5 (ys.length + 1) c5) (ys ++ [((i : Int), a4, b.length, c4)]) := (HO5.out.grown HGV.out (.inr (HO5.out.ne_row hs1))).at eWr_ok
  have hlt4 : ∀ k, (Value.slice a4 b.length c4).ownBlock = some k → w3.heap.size ≤ k ∧ k < w4.heap.size := HO4.out.lt
  have hbV : BytesAt V (.slice a4 b.length c4) b := HO4.out.bytes.on fun k hk => by
    have h4 := hlt4 k hk
    rw [HGV.out.block k (by omega) (by intro e; cases e; omega), HG5.out.block k (by simp; omega) (fun e => by have := (HO3.out.lt k e.symm).2; omega), HB5.out.block k (by omega)]
  have hDV : DiskR (fun k => G k ∨ (w1.heap.size ≤ k ∧ k < V.heap.size)) V (waits d i b) (.slice la xs.length lc) (.slice a5 (ys.length + 1) c5) (.slice ka d.keep.length kc) xs (ys ++ [((i : Int), a4, b.length, c4)]) :=
    H.out.addWait (fun k hk => hall.block k (HG.out k hk)) (fun k hk => .inl hk) hrow (fun k hk => by have := HO5.out.lt k hk; exact .inr (by omega)) hbV (fun k hk => by have := hlt4 k hk; exact .inr (by omega))
  have hRV : RefAt (fun k => G k ∨ (w1.heap.size ≤ k ∧ k < V.heap.size)) V (.agg #[.int .i64 (d.blocks : Int), .int .i64 (d.size : Int), .slice la xs.length lc, .slice a5 (ys.length + 1) c5, .bool d.lit, .int .i64 d.after, .int .i64 d.torn, .int .i64 d.cut, .slice ka d.keep.length kc, .bool false, .int .i64 d.count]) (waits d i b) := by
    have e : refD (waits d i b) (.slice la xs.length lc) (.slice a5 (ys.length + 1) c5) (.slice ka d.keep.length kc) = .agg #[.int .i64 (d.blocks : Int), .int .i64 (d.size : Int), .slice la xs.length lc, .slice a5 (ys.length + 1) c5, .bool d.lit, .int .i64 d.after, .int .i64 d.torn, .int .i64 d.cut, .slice ka d.keep.length kc, .bool false, .int .i64 d.count] := by unfold refD waits; simp only [HOFF.out]
    rw [← e]
    exact hDV.at
  have HRV := Lib.hid hRV
  have HHV := Lib.hid (show Held (fun k => G k ∨ (w1.heap.size ≤ k ∧ k < V.heap.size)) V from fun k hk => (hGm k hk).2.2)
  have HOW := Lib.hid (HO.out.wait1 HI.out HBL.out)
  have HALL := Lib.hid hall
  have HGM := Lib.hid hGm
  clear hall hGm hrow hlt4 hbV hDV hRV HX1 HY1 HX3 HY3 HX5 HY5 HB4 HB5 HG5 HO3 HO4 HO5 HWT HBY
  obtain ⟨x0, x1, x2, x3, x4, x5, x6, x7, x8, x9, x10⟩ := HXV.out.eleven
  go_wp2_with (go_at_call 52; (refine (refBurns4_any HE.out HRV.out HOW.out HHV.out).mono ?_); (rintro e w6 ⟨⟨v6, rfl, hr6⟩, hb6⟩); (obtain ⟨lv6, wv6, kv6, xs6, ys6, rfl, h6⟩ := hr6); (obtain ⟨la6, lc6, wa6, wc6, ka6, kc6, rfl, rfl, rfl⟩ := h6.shape); (have H6 := Lib.hid h6); (have HB6 := Lib.hid hb6); (have HY6 := Lib.hid (HYV.out.below hb6)); (clear h6 hb6 x0 x1 x2 x3 x4 x5 x6 x7 x8 x9 x10); (obtain ⟨y0, y1, y2, y3, y4, y5, y6, y7, y8, y9, y10⟩ := HY6.out.eleven); (obtain ⟨fy0, fy1, fy2, fy3, fy4, fy5, fy6, fy7, fy8, fy9, fy10⟩ := HY6.out.elevenF); (unfold refD))
  refine bodyPost_ret (v := .tuple #[refD E (.slice la6 xs6.length lc6) (.slice wa6 ys6.length wc6) (.slice ka6 E.keep.length kc6), .int .i64 (k : Int)]) (by simp [results, Tryz.results31, go_sem, refD, y0, y1, y2, y3, y4, y5, y6, y7, y8, y9, y10]) rfl ?_
  have hs6 := HB6.out.size
  refine GivesRC.fin H6.out (fun j hj => ?_) ?_ (fun j hj => ?_)
  · rcases hj with (h | h) | h
    · exact .inl h
    · exact .inr ⟨by omega, by simp; omega⟩
    · exact .inr ⟨by omega, by simp; omega⟩
  · have h1 : Below w.heap.size w w6 := HALL.out.trans (HB6.out.mono (by omega))
    repeat (first | refine Below.setCell ?_ (by first | exact Nat.le_refl _ | exact Nat.le_succ _) _ | exact h1)
  · have h1 : w.heap.size + 1 ≠ j := by
      rcases hj with h | h
      · exact fun e => (HGM.out j h).2.1 e.symm
      · omega
    repeat (first | rw [heap_set_ne h1])
theorem refPut4 {G : Nat → Prop} {w : World} {n : Nat} {d : Bk.Disk} {v : Value} (hr : RefAt G w v d) (ho : Bk.Ok n d) (hG : Held G w) (i : Int) (b : Bk.Blk) (bv : Value) (hb : BytesAt w bv b) (hn : n ≤ 1000) :
    Calls Tryz.prog 31 #[v, .int .i64 i, bv] w fun e w' => GivesRC G w (Bk.put d i b).1 (Bk.put d i b).2 e w' ∧ Below w.heap.size w w' := by
  by_cases hi : Bk.In d i
  · obtain ⟨k, rfl⟩ : ∃ k : Nat, i = (k : Int) := ⟨i.toNat, by unfold Bk.In at hi; omega⟩
    have hk : k < d.blocks := by unfold Bk.In at hi; omega
    rw [put_in hk]
    cases hoff : d.off with
    | true => rw [if_pos rfl]; exact refPut4_off hr hG k hi hoff bv
    | false =>
      rw [if_neg (by simp)]
      by_cases hl : b.length = d.size
      · rw [if_pos hl]; exact refPut4_in hr ho hG k hk hoff b bv hb hl hn rfl
      · rw [if_neg hl]
        obtain ⟨a, c, rfl, -⟩ := hb
        exact refPut4_form hr hG k hi hoff a c b hl
  · rw [put_out (by unfold Bk.In at hi; omega)]
    exact refPut4_out hr hG i hi bv

end Go.Proofs.YtflbioiildndoaaGreatDoor

/- the document's disks: Corrupt (printed by wip/tools/gen_refcor.py) -/
namespace Go.Proofs.YtflbioiildndoaaGreatDoor
open Go.RowKit
set_option linter.unusedVariables false
set_option linter.unusedSimpArgs false

end Go.Proofs.YtflbioiildndoaaGreatDoor

/- the document's disks: New -/
namespace Go.Proofs.YtflbioiildndoaaGreatDoor
open Go.RowKit
set_option linter.unusedVariables false
set_option linter.unusedSimpArgs false

/-- a new disk by value -/
theorem NewP.ref {w0 wr : World} {p b s : Nat} {lv : Value} {gs : List (Nat × Nat)} (h : NewP w0 wr p b s b lv gs) : DiskR (fun k => p + 1 ≤ k ∧ k < wr.heap.size) wr (Bk.new b s) lv (.slice none 0 0) (.slice none 0 0) (gs.map fun g => (some ⟨g.1, 0, none⟩, s, g.2)) [] where
  last := by
    obtain ⟨a, c, e, h1, h2, h3⟩ := h.last.at (eBk_ok s)
    refine ⟨a, c, by simpa using e, by simpa using h1, h2, ?_⟩
    rcases h3 with h3 | ⟨g, o, rfl, hc⟩
    · exact .inl (by rw [h3]; rfl)
    · refine .inr ⟨g, o, rfl, fun i x hx j u hu => ?_⟩
      rw [List.getElem?_map] at hx
      cases hy : gs[i]? with
      | none => rw [hy] at hx; cases hx
      | some y =>
        rw [hy] at hx
        cases hx
        exact hc i y hy j u hu
  wait := RowAt.nil _ _
  keep := RowAt.nil _ _
  lastG := h.last.lt
  waitG := fun k hk => by cases hk
  keepG := .inl rfl
  xlen := by simp [Bk.new, h.glen]
  xeach := by
    intro i x y hx hy
    rw [List.getElem?_map] at hx
    simp only [Bk.new, List.getElem?_replicate] at hy
    split at hy
    · cases hy
      cases hz : gs[i]? with
      | none => rw [hz] at hx; cases hx
      | some g =>
        rw [hz] at hx
        cases hx
        exact ⟨(h.each i g hz).bytes, (h.each i g hz).lt⟩
    · cases hy
  ylen := rfl
  yeach := fun i y z hy => by cases hy
set_option maxRecDepth 100000 in
theorem refNew4 (b s : Nat) (hb : 8 ≤ b ∧ b ≤ 256) (hs : 256 ≤ s ∧ s ≤ 1024) (w : World) :
    Calls Tryz.prog 30 #[.agg #[.int .i64 (b : Int), .int .i64 (s : Int)]] w fun e w' => GivesR (fun _ => False) w (Bk.new b s) e w' ∧ Below w.heap.size w w' := by
  go_enter Tryz.func30, Tryz.ntmps30
  go_upto_region 2 with fail
  refine wp_name fun W hW => ?_
  obtain ⟨p, hp⟩ : ∃ p, w.heap.size + 1 + 1 = p := ⟨_, rfl⟩
  have hN : NewP w W p b s 0 (.slice none 0 0) [] := by
    refine ⟨?_, OwnR.nil _ _ _, rfl, fun i g hg => (by cases hg), by simp [Value.ownBlock], by omega, by rw [hW]; go_grown⟩
    rw [hW]
    exact BoxAt.newAt _ _ (by simp; omega) [_, _, _, _, _, _, _, _, _, _, _] _
  have hgx : BoxAt W w.heap.size [.int .i64 (b : Int), .int .i64 (s : Int)] := by rw [hW]; exact ((BoxAt.new w [_, _] _).alloc _).alloc _
  have hgz : BoxAt W (w.heap.size + 1) zeroD := by rw [hW]; exact (BoxAt.newAt _ _ (by simp) [_, _, _, _, _, _, _, _, _, _, _] _).alloc _
  have HN := Lib.hid hN
  have HGX := Lib.hid hgx
  have HGZ := Lib.hid hgz
  have hpw : w.heap.size + 1 ≤ p := by omega
  have hpw2 : w.heap.size + 1 < p := by omega
  rw [hp]
  clear hW hN hgx hgz hp
  obtain ⟨y0, y1⟩ := HGX.out.two
  go_wp2_with fail
  go_loopw [4] (fun x wr => ∃ k : Nat, k ≤ b ∧ x = .int .i64 (k : Int) ∧ (∃ lv gs, NewP w wr p b s k lv gs) ∧ BoxAt wr w.heap.size [.int .i64 (b : Int), .int .i64 (s : Int)] ∧ BoxAt wr (w.heap.size + 1) zeroD) (fun x _ => b - (intOf x).toNat)
  case atStart => exact ⟨0, Nat.zero_le _, rfl, ⟨_, _, HN.out⟩, HGX.out, HGZ.out⟩
  case round =>
    obtain ⟨k, hk, rfl, ⟨lv, gs, hn⟩, hg, hgz⟩ := hrel
    obtain ⟨m0, -, m2, -⟩ := hn.box.eleven
    have hplt := hn.box.lt
    have hwp : some p ≠ lv.ownBlock := fun e => by have := (hn.last.lt p e.symm).1; omega
    have HWP := Lib.hid hwp
    have HNR := Lib.hid hn
    have HG := Lib.hid hg
    have HZ := Lib.hid hgz
    have hgl := hn.glen
    have hgl2 : gs.length ≤ 256 := by omega
    clear y0 y1 hwp hgl
    obtain ⟨y0, y1⟩ := hg.two
    clear hn hg hgz
    by_cases hlt : k < b
    · have hlt1 : (k : Int) < (b : Int) := by omega
      go_upto_region 5 with fail
      have hgw : lv.ownBlock ≠ some w.heap.size := fun e => by have := (HNR.out.last.lt _ e).1; omega
      have n2 := Near.cell (w := wr.drew) (row := lv.ownBlock) m2 (by have := HWP.out; exact fun e => this e.symm)
      have n3 := Near.cell (w := wr.drew) (row := lv.ownBlock) y1 hgw
      have HGW := Lib.hid hgw
      have hgw2 : lv.ownBlock ≠ some (w.heap.size + 1) := fun e => by have := (HNR.out.last.lt _ e).1; omega
      have HGW2 := Lib.hid hgw2
      clear hgw2
      clear hgw
      refine wp_region_mix (fun w' => ∃ x : Near wr.drew lv.ownBlock, w' = x.world) [8] 9 (by kernel_rfl) rfl ?_
      refine mix_reads_lit [0, 1, 2, 3] 5 (by kernel_rfl) (by kernel_rfl) (by kernel_rfl) (by kernel_rfl) rfl (NearC.of (World.grownBy.refl _ _)) ?_
      simp only [pick, List.filterMap_cons, List.filterMap_nil, List.getElem?_cons_succ, List.getElem?_cons_zero]
      repeat (first | go_big_quiet_step (fail) | quiet_step (fail))
      refine wpQuiet_nil ?_
      refine mix_deed_lit 4 4 (by kernel_rfl) (by kernel_rfl) rfl (fun K hK => ?_)
      simp only [comesUp, List.getElem?_cons_succ, List.getElem?_cons_zero]
      refine if_mk rfl ?_
      refine step_make_bytes (.tmp 16) (.tmp 16) rfl s rfl rfl (by omega) ?_
      intro w2 hob hg2
      have gb1 : wr.drew.grownBy w2 lv.ownBlock := hg2.but _
      have HOB := Lib.hid hob
      have hlt2 : wr.heap.size < w2.heap.size := (hob.lt _ rfl).2
      have hszd : wr.drew.heap.size = wr.heap.size := rfl
      rw [hszd]
      refine hK _ _ (fun _ _ => NearC.of gb1) ?_
      clear hK K hob
      refine mix_deed_lit 5 3 (by kernel_rfl) (by kernel_rfl) rfl (fun K hK => ?_)
      simp only [comesUp, List.getElem?_cons_succ, List.getElem?_cons_zero]
      refine if_mk rfl ?_
      go_simp
      have gb2 : wr.drew.grownBy (w2.alloc (.cells #[.slice (some ⟨wr.heap.size, 0, none⟩) s s] 53)) lv.ownBlock := grown_trans gb1 (grown_alloc _ _ _)
      refine hK _ _ (fun _ _ => NearC.of gb2) ?_
      clear hK K
      have hll : OwnR (eBk s) w2 (p + 1) lv gs := (HNR.out.last.drew).grown hg2 (by cases lv.ownBlock <;> simp)
      have HLL := Lib.hid (hll.alloc (.cells #[.slice (some ⟨wr.heap.size, 0, none⟩) s s] 53))
      have HGB := Lib.hid gb2
      have hpw2 : p + 1 ≤ w2.heap.size := by omega
      clear hll gb1 gb2 hg2
      refine mix_deed_lit 6 2 (by kernel_rfl) (by kernel_rfl) rfl (fun K hK => ?_)
      simp only [comesUp, List.getElem?_cons_succ, List.getElem?_cons_zero]
      refine if_mk rfl ?_
      refine step_append_near (eBk s) (eBk_ok _) (.tmp 14) (.tmp 18) rfl (p + 1) lv gs rfl HLL.out [(wr.heap.size, s)] (RowAt.one (E := eBk s) w2 (wr.heap.size, s) #[.slice (some ⟨wr.heap.size, 0, none⟩) s s] 53 rfl w2.heap.size rfl) (by simp; omega) (by simp; omega) (by simp; omega) ?_
      intro v3 w3 ho3 hg3 hn3
      obtain ⟨a3, c3, rfl, -, -⟩ := ho3.slice
      have gb3 := grown_trans HGB.out hg3
      have hbx : BoxAt w3 p (cellsD { Bk.new b s with lasting := List.replicate k (Bk.zeros s) } lv (.slice none 0 0) (.slice none 0 0)) := (show BoxAt wr.drew p _ from HNR.out.box).grownR gb3 (fun e => HWP.out e.symm)
      have hgx3 : BoxAt w3 w.heap.size [.int .i64 (b : Int), .int .i64 (s : Int)] := (show BoxAt wr.drew w.heap.size _ from HG.out).grownR gb3 HGW.out
      refine hK _ _ (fun _ _ => NearC.of gb3) ?_
      clear hK K
      refine mix_reads_lit [7] 1 (by kernel_rfl) (by kernel_rfl) (by kernel_rfl) (by kernel_rfl) rfl (NearC.of gb3) ?_
      simp only [pick, List.filterMap_cons, List.filterMap_nil, List.getElem?_cons_succ, List.getElem?_cons_zero]
      repeat (first | go_big_quiet_step (fail) | quiet_step (fail))
      refine wpQuiet_nil ?_
      have q3 := hbx.at 2 lv rfl
      have r3 := hbx.free 2 lv rfl
      have HBX := Lib.hid hbx
      have HGX3 := Lib.hid hgx3
      have HGZ3 := Lib.hid ((show BoxAt wr.drew (w.heap.size + 1) zeroD from HZ.out).grownR gb3 HGW2.out)
      have HO3 := Lib.hid ho3
      have HG3 := Lib.hid gb3
      have HN3 := Lib.hid hn3
      have HGL := Lib.hid hg3
      have hs3 := hg3.size
      simp at hs3
      clear hbx ho3 hg3 hn3 gb3 hgx3
      refine mix_deed_lit 8 0 (by kernel_rfl) (by kernel_rfl) rfl (fun K hK => ?_)
      simp only [comesUp, List.getElem?_cons_succ, List.getElem?_cons_zero]
      refine if_mk rfl ?_
      go_simp
      refine hK _ _ (fun h => by simp [keeps] at h) ?_
      clear hK K
      refine mix_done_lit (by kernel_rfl) ?_
      go_upto_region 4 with fail
      refine wp_name fun V hV => ?_
      have hVb : ∀ k, k ≠ p → V.heap[k]? = w3.heap[k]? := fun k hk => by rw [hV]; exact heap_set_ne (fun e => hk e.symm)
      have hVs : V.heap.size = w3.heap.size := by rw [hV]; simp
      have hbxV : BoxAt V p (cellsD { Bk.new b s with lasting := List.replicate (k + 1) (Bk.zeros s) } (.slice a3 (gs.length + 1) c3) (.slice none 0 0) (.slice none 0 0)) := by rw [hV]; exact HBX.out.put 2 _
      have hVo : V.os = wr.os ∧ V.tape = wr.tape ∧ V.output = wr.output := by rw [hV]; exact ⟨HG3.out.os, HG3.out.tape, HG3.out.output⟩
      have hgxV : BoxAt V w.heap.size [.int .i64 (b : Int), .int .i64 (s : Int)] := by rw [hV]; exact HGX3.out.set (by omega) _ _
      have HGZV := Lib.hid (show BoxAt V (w.heap.size + 1) zeroD by rw [hV]; exact HGZ3.out.set (by omega) _ _)
      clear hV
      have HWL := Lib.hid (fun k (hk : lv.ownBlock = some k) => HNR.out.last.lt k hk)
      have hown : Own V (p + 1) (.slice (some ⟨wr.heap.size, 0, none⟩) s s) (Bk.zeros s) := by
        have h1 : Own w2 (p + 1) (.slice (some ⟨wr.heap.size, 0, none⟩) s s) (Bk.zeros s) := HOB.out.mono (by show p + 1 ≤ wr.heap.size; omega)
        refine h1.on fun k hk => ?_
        obtain rfl : wr.heap.size = k := Option.some.inj hk
        rw [hVb _ (by omega), HGL.out.block _ (by simp; omega) (fun e => by have := (HWL.out _ e.symm).2; omega), Below.heap_alloc _ _ _ hlt2]
      have hnear : ∀ k, (Value.slice a3 (gs.length + 1) c3).ownBlock = some k → lv.ownBlock = some k ∨ w2.heap.size + 1 ≤ k := by
        intro k hk
        have hk' : (Value.slice a3 (gs ++ [(wr.heap.size, s)]).length c3).ownBlock = some k := by simpa using hk
        rcases HN3.out with h | h
        · exact .inl (h.symm.trans hk')
        · exact .inr (by simpa using h k hk')
      have hnear2 : (Value.slice a3 (gs.length + 1) c3).ownBlock = lv.ownBlock ∨ ∀ k, (Value.slice a3 (gs.length + 1) c3).ownBlock = some k → wr.heap.size ≤ k := by
        rcases HN3.out with h | h
        · exact .inl (by simpa using h)
        · exact .inr fun k hk => by
            have hk' : (Value.slice a3 (gs ++ [(wr.heap.size, s)]).length c3).ownBlock = some k := by simpa using hk
            have := h k hk'
            simp at this
            omega
      have hlastV : OwnR (eBk s) V (p + 1) (.slice a3 (gs.length + 1) c3) (gs ++ [(wr.heap.size, s)]) := by
        have h := HO3.out
        simp only [List.length_append, List.length_cons, List.length_nil, Nat.zero_add] at h
        refine h.on fun k hk => hVb k fun e => ?_
        rcases hnear k hk with h | h
        · exact HWP.out (by rw [h, e])
        · omega
      have hbel : Below w.heap.size w V := by
        refine HNR.out.below.trans ⟨hVo.1, hVo.2.1, hVo.2.2, by omega, fun k hk => ?_⟩
        have hkp : k ≠ p := by have := HNR.out.low; omega
        rw [hVb k hkp, HG3.out.block k (by show k < wr.heap.size; have := HNR.out.low; omega) (fun e => by have := (HWL.out _ e.symm).1; have := HNR.out.low; omega)]
        rfl
      have HNX := Lib.hid (HNR.out.next (w' := V) (g := (wr.heap.size, s)) (lv' := .slice a3 (gs.length + 1) c3) (fun i hi h1 h2 => by
        rw [hVb i h1, HG3.out.block i hi (fun e => h2 e.symm)]; rfl) hbxV hlastV hnear2 hown (Nat.le_refl _) (fun e => by
          rcases hnear _ e with h | h
          · have := (HWL.out _ h).2; omega
          · omega) hbel)
      have HGV := Lib.hid hgxV
      clear hbxV hVo hgxV hVb hVs hown hnear hnear2 hlastV hbel q3 r3 m0 m2 y0 y1 hszd
      go_wp2_with fail
      go_roundw
      case rel => exact ⟨k + 1, by omega, by go_num, ⟨_, _, HNX.out⟩, HGV.out, HGZV.out⟩
      case measure => simp [intOf]; omega
    · obtain rfl : k = b := by omega
      clear m0 m2
      obtain ⟨a3, c3, rfl, -, -⟩ := HNR.out.last.slice
      obtain ⟨x0, x1, x2, x3, x4, x5, x6, x7, x8, x9, x10⟩ := HNR.out.box.eleven
      obtain ⟨z0, z1, z2, z3, z4, z5, z6, z7, z8, z9, z10⟩ := HZ.out.eleven
      obtain ⟨fz0, fz1, fz2, fz3, fz4, fz5, fz6, fz7, fz8, fz9, fz10⟩ := HZ.out.elevenF
      go_wp2_with fail
      refine bodyPost_ret (v := refD (Bk.new k s) (.slice a3 gs.length c3) (.slice none 0 0) (.slice none 0 0)) (by simp [results, Tryz.results30, go_sem, refD, Bk.new, z0, z1, z2, z3, z4, z5, z6, z7, z8, z9, z10]) rfl ?_
      have hD := HNR.out.ref
      have hsz := HNR.out.below.size
      have hlt : ∀ j, (p + 1 ≤ j ∧ j < wr.heap.size) → w.heap.size + 1 ≠ j := fun j hj => by omega
      refine ⟨⟨_, rfl, _, _, _, _, _, rfl, (hD.on fun j hj => ?_).mono fun j hj => .inr ⟨by omega, by simp; omega⟩⟩, ?_⟩
      · have h1 := hlt j hj
        repeat (first | rw [heap_set_ne h1])
      · have h1 := HNR.out.below
        repeat (first | refine Below.setCell ?_ (by first | exact Nat.le_refl _ | exact Nat.le_succ _) _ | exact h1)
end Go.Proofs.YtflbioiildndoaaGreatDoor
