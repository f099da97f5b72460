/- the document's disks: Put (printed by wip/tools/gen_refput.py) -/
import Derived.Test.YtflbioiildndoaaDoorRefBlk5
namespace Go.Proofs.YtflbioiildndoaaDoor
open Go.RowKit
set_option linter.unusedVariables false
set_option linter.unusedSimpArgs false

theorem refBurns4_any {G : Nat → Prop} {w : World} {n : Nat} {d E : Bk.Disk} {k : Nat} {v : Value} (hE : Bk.burns d = (E, k)) (hr : RefAt G w v d) (ho : Bk.Ok n d) (hG : Held G w) :
    Calls Tryd.prog 61 #[v] w fun e w' => GivesRC G w E k e w' ∧ Below w.heap.size w w' := by
  unfold Bk.burns at hE
  by_cases hb : Bk.blows d
  · rw [if_pos hb] at hE
    obtain ⟨h1, rfl⟩ := Prod.mk.inj hE
    exact refBurns4_blow' h1 hr ho hG hb
  · rw [if_neg hb] at hE
    obtain ⟨h1, rfl⟩ := Prod.mk.inj hE
    exact refBurns4_tick' h1 hr hG hb
/-- one write more, in the document's disk -/
theorem DiskR.addWait {G G' : Nat → Prop} {w w' : World} {d : Bk.Disk} {lv wv wv' kv : Value} {xs : List Sl3} {ys : List (Int × Sl3)} (h : DiskR G w d lv wv kv xs ys) (on : ∀ k, G k → w'.heap[k]? = w.heap[k]?) (hG : ∀ k, G k → G' k) {i : Nat} {y : Sl3} {b : Bk.Blk}
    (hrow : RowAt eWr w' wv' (ys ++ [((i : Int), y)])) (hwG : InG G' wv') (hy : BytesAt w' (.slice y.1 y.2.1 y.2.2) b) (hyG : InG G' (.slice y.1 y.2.1 y.2.2)) : DiskR G' w' (waits d i b) lv wv' kv xs (ys ++ [((i : Int), y)]) := by
  have h' := (h.on on).mono hG
  refine ⟨h'.last, hrow, h'.keep, h'.lastG, hwG, h'.keepG, h'.xlen, h'.xeach, by simp [waits, h.ylen], fun j u z hu hz => ?_⟩
  simp only [waits] at hz
  rw [List.getElem?_append] at hu hz
  rw [h.ylen] at hu
  split at hu
  · rename_i hj
    rw [if_pos hj] at hz
    exact h'.yeach j u z hu hz
  · rename_i hj
    rw [if_neg hj] at hz
    rw [List.getElem?_singleton] at hu hz
    split at hu
    · rename_i hj0
      rw [if_pos hj0] at hz
      cases hu; cases hz
      exact ⟨rfl, hy, hyG⟩
    · cases hu

set_option maxRecDepth 100000 in
set_option maxHeartbeats 1000000 in
theorem refPut4_out {G : Nat → Prop} {w : World} {d : Bk.Disk} {v : Value} (hr : RefAt G w v d) (hG : Held G w) (i : Int) (hi : ¬ Bk.In d i) (bv : Value) :
    Calls Tryd.prog 78 #[v, .int .i64 i, bv] w fun e w' => GivesRC G w d 2 e w' ∧ Below w.heap.size w w' := by
  obtain ⟨lv, wv, kv, xs, ys, rfl, h⟩ := hr
  obtain ⟨la, lc, wa, wc, ka, kc, rfl, rfl, rfl⟩ := h.shape
  have H := Lib.hid h
  have HG := Lib.hid hG
  have HV := Lib.hid (show refD d (.slice la xs.length lc) (.slice wa ys.length wc) (.slice ka d.keep.length kc) = .agg #[.int .i64 (d.blocks : Int), .int .i64 (d.size : Int), .slice la xs.length lc, .slice wa ys.length wc, .bool d.lit, .int .i64 d.after, .int .i64 d.torn, .int .i64 d.cut, .slice ka d.keep.length kc, .bool d.off, .int .i64 d.count] by unfold refD; first | rw [hoff] | rfl)
  have hin := fun w0 => refIn4_is d (.slice la xs.length lc) (.slice wa ys.length wc) (.slice ka d.keep.length kc) i false (decide_eq_false hi) w0
  simp only [HV.out] at hin
  rw [HV.out]
  have HIN := Lib.hid hin
  clear h hG hin hi
  go_enter Tryd.func78, Tryd.ntmps78
  go_upto_region 1 with fail
  refine wp_name fun W hW => ?_
  have HX := Lib.hid (show BoxAt W w.heap.size [.int .i64 (d.blocks : Int), .int .i64 (d.size : Int), .slice la xs.length lc, .slice wa ys.length wc, .bool d.lit, .int .i64 d.after, .int .i64 d.torn, .int .i64 d.cut, .slice ka d.keep.length kc, .bool d.off, .int .i64 d.count] by rw [hW]; exact (BoxAt.new w [_, _, _, _, _, _, _, _, _, _, _] _).alloc _)
  have HY := Lib.hid (show BoxAt W (w.heap.size + 1) zeroD by rw [hW]; exact BoxAt.newAt _ _ (by simp) [_, _, _, _, _, _, _, _, _, _, _] _)
  have HBW := Lib.hid (show Below w.heap.size w W by rw [hW]; go_grown)
  have hW2 : w.heap.size + 1 < W.heap.size := HY.out.lt
  clear hW
  obtain ⟨x0, x1, x2, x3, x4, x5, x6, x7, x8, x9, x10⟩ := HX.out.eleven
  go_wp2_with (go_at_call 82; (refine (HIN.out _).mono ?_); (rintro e w1 ⟨rfl, hb1⟩); (have HB1 := Lib.hid hb1); (have HX1 := Lib.hid (HX.out.below hb1)); (have HY1 := Lib.hid (HY.out.below hb1)); (clear hb1 x0 x1 x2 x3 x4 x5 x6 x7 x8 x9 x10); (obtain ⟨x0, x1, x2, x3, x4, x5, x6, x7, x8, x9, x10⟩ := HX1.out.eleven); (obtain ⟨fx0, fx1, fx2, fx3, fx4, fx5, fx6, fx7, fx8, fx9, fx10⟩ := HX1.out.elevenF); (obtain ⟨y0, y1, y2, y3, y4, y5, y6, y7, y8, y9, y10⟩ := HY1.out.eleven); (obtain ⟨fy0, fy1, fy2, fy3, fy4, fy5, fy6, fy7, fy8, fy9, fy10⟩ := HY1.out.elevenF))
  refine bodyPost_ret (v := .tuple #[refD d (.slice la xs.length lc) (.slice wa ys.length wc) (.slice ka d.keep.length kc), .int .i64 2]) (by rw [HV.out]; simp [results, Tryd.results78, go_sem, y0, y1, y2, y3, y4, y5, y6, y7, y8, y9, y10]) rfl ?_
  refine GivesRC.of H.out HG.out ?_
  have h1 := HBW.out.trans (HB1.out.mono HBW.out.size)
  repeat (first | refine Below.setCell ?_ (by first | exact Nat.le_refl _ | exact Nat.le_succ _) _ | exact h1)

set_option maxRecDepth 100000 in
set_option maxHeartbeats 1000000 in
theorem refPut4_off {G : Nat → Prop} {w : World} {d : Bk.Disk} {v : Value} (hr : RefAt G w v d) (hG : Held G w) (i : Int) (hi : Bk.In d i) (hoff : d.off = true) (bv : Value) :
    Calls Tryd.prog 78 #[v, .int .i64 i, bv] w fun e w' => GivesRC G w d 7 e w' ∧ Below w.heap.size w w' := by
  obtain ⟨lv, wv, kv, xs, ys, rfl, h⟩ := hr
  obtain ⟨la, lc, wa, wc, ka, kc, rfl, rfl, rfl⟩ := h.shape
  have H := Lib.hid h
  have HG := Lib.hid hG
  have HV := Lib.hid (show refD d (.slice la xs.length lc) (.slice wa ys.length wc) (.slice ka d.keep.length kc) = .agg #[.int .i64 (d.blocks : Int), .int .i64 (d.size : Int), .slice la xs.length lc, .slice wa ys.length wc, .bool d.lit, .int .i64 d.after, .int .i64 d.torn, .int .i64 d.cut, .slice ka d.keep.length kc, .bool true, .int .i64 d.count] by unfold refD; first | rw [hoff] | rfl)
  have hin := fun w0 => refIn4_is d (.slice la xs.length lc) (.slice wa ys.length wc) (.slice ka d.keep.length kc) i true (decide_eq_true hi) w0
  simp only [HV.out] at hin
  rw [HV.out]
  have HIN := Lib.hid hin
  clear h hG hin hi hoff
  go_enter Tryd.func78, Tryd.ntmps78
  go_upto_region 1 with fail
  refine wp_name fun W hW => ?_
  have HX := Lib.hid (show BoxAt W w.heap.size [.int .i64 (d.blocks : Int), .int .i64 (d.size : Int), .slice la xs.length lc, .slice wa ys.length wc, .bool d.lit, .int .i64 d.after, .int .i64 d.torn, .int .i64 d.cut, .slice ka d.keep.length kc, .bool true, .int .i64 d.count] by rw [hW]; exact (BoxAt.new w [_, _, _, _, _, _, _, _, _, _, _] _).alloc _)
  have HY := Lib.hid (show BoxAt W (w.heap.size + 1) zeroD by rw [hW]; exact BoxAt.newAt _ _ (by simp) [_, _, _, _, _, _, _, _, _, _, _] _)
  have HBW := Lib.hid (show Below w.heap.size w W by rw [hW]; go_grown)
  have hW2 : w.heap.size + 1 < W.heap.size := HY.out.lt
  clear hW
  obtain ⟨x0, x1, x2, x3, x4, x5, x6, x7, x8, x9, x10⟩ := HX.out.eleven
  go_wp2_with (go_at_call 82; (refine (HIN.out _).mono ?_); (rintro e w1 ⟨rfl, hb1⟩); (have HB1 := Lib.hid hb1); (have HX1 := Lib.hid (HX.out.below hb1)); (have HY1 := Lib.hid (HY.out.below hb1)); (clear hb1 x0 x1 x2 x3 x4 x5 x6 x7 x8 x9 x10); (obtain ⟨x0, x1, x2, x3, x4, x5, x6, x7, x8, x9, x10⟩ := HX1.out.eleven); (obtain ⟨fx0, fx1, fx2, fx3, fx4, fx5, fx6, fx7, fx8, fx9, fx10⟩ := HX1.out.elevenF); (obtain ⟨y0, y1, y2, y3, y4, y5, y6, y7, y8, y9, y10⟩ := HY1.out.eleven); (obtain ⟨fy0, fy1, fy2, fy3, fy4, fy5, fy6, fy7, fy8, fy9, fy10⟩ := HY1.out.elevenF))
  refine bodyPost_ret (v := .tuple #[refD d (.slice la xs.length lc) (.slice wa ys.length wc) (.slice ka d.keep.length kc), .int .i64 7]) (by rw [HV.out]; simp [results, Tryd.results78, go_sem, y0, y1, y2, y3, y4, y5, y6, y7, y8, y9, y10]) rfl ?_
  refine GivesRC.of H.out HG.out ?_
  have h1 := HBW.out.trans (HB1.out.mono HBW.out.size)
  repeat (first | refine Below.setCell ?_ (by first | exact Nat.le_refl _ | exact Nat.le_succ _) _ | exact h1)

set_option maxRecDepth 100000 in
set_option maxHeartbeats 1000000 in
theorem refPut4_form {G : Nat → Prop} {w : World} {d : Bk.Disk} {v : Value} (hr : RefAt G w v d) (hG : Held G w) (i : Int) (hi : Bk.In d i) (hoff : d.off = false) (a : Option Addr) (c : Nat) (b : Bk.Blk) (hl : b.length ≠ d.size) :
    Calls Tryd.prog 78 #[v, .int .i64 i, .slice a b.length c] w fun e w' => GivesRC G w d 1 e w' ∧ Below w.heap.size w w' := by
  have hbe : ((b.length : Int) != (d.size : Int)) = true := by simp; omega
  obtain ⟨lv, wv, kv, xs, ys, rfl, h⟩ := hr
  obtain ⟨la, lc, wa, wc, ka, kc, rfl, rfl, rfl⟩ := h.shape
  have H := Lib.hid h
  have HG := Lib.hid hG
  have HV := Lib.hid (show refD d (.slice la xs.length lc) (.slice wa ys.length wc) (.slice ka d.keep.length kc) = .agg #[.int .i64 (d.blocks : Int), .int .i64 (d.size : Int), .slice la xs.length lc, .slice wa ys.length wc, .bool d.lit, .int .i64 d.after, .int .i64 d.torn, .int .i64 d.cut, .slice ka d.keep.length kc, .bool false, .int .i64 d.count] by unfold refD; first | rw [hoff] | rfl)
  have hin := fun w0 => refIn4_is d (.slice la xs.length lc) (.slice wa ys.length wc) (.slice ka d.keep.length kc) i true (decide_eq_true hi) w0
  simp only [HV.out] at hin
  rw [HV.out]
  have HIN := Lib.hid hin
  clear h hG hin hi hoff hl
  go_enter Tryd.func78, Tryd.ntmps78
  go_upto_region 1 with fail
  refine wp_name fun W hW => ?_
  have HX := Lib.hid (show BoxAt W w.heap.size [.int .i64 (d.blocks : Int), .int .i64 (d.size : Int), .slice la xs.length lc, .slice wa ys.length wc, .bool d.lit, .int .i64 d.after, .int .i64 d.torn, .int .i64 d.cut, .slice ka d.keep.length kc, .bool false, .int .i64 d.count] by rw [hW]; exact (BoxAt.new w [_, _, _, _, _, _, _, _, _, _, _] _).alloc _)
  have HY := Lib.hid (show BoxAt W (w.heap.size + 1) zeroD by rw [hW]; exact BoxAt.newAt _ _ (by simp) [_, _, _, _, _, _, _, _, _, _, _] _)
  have HBW := Lib.hid (show Below w.heap.size w W by rw [hW]; go_grown)
  have hW2 : w.heap.size + 1 < W.heap.size := HY.out.lt
  clear hW
  obtain ⟨x0, x1, x2, x3, x4, x5, x6, x7, x8, x9, x10⟩ := HX.out.eleven
  go_wp2_with (go_at_call 82; (refine (HIN.out _).mono ?_); (rintro e w1 ⟨rfl, hb1⟩); (have HB1 := Lib.hid hb1); (have HX1 := Lib.hid (HX.out.below hb1)); (have HY1 := Lib.hid (HY.out.below hb1)); (clear hb1 x0 x1 x2 x3 x4 x5 x6 x7 x8 x9 x10); (obtain ⟨x0, x1, x2, x3, x4, x5, x6, x7, x8, x9, x10⟩ := HX1.out.eleven); (obtain ⟨fx0, fx1, fx2, fx3, fx4, fx5, fx6, fx7, fx8, fx9, fx10⟩ := HX1.out.elevenF); (obtain ⟨y0, y1, y2, y3, y4, y5, y6, y7, y8, y9, y10⟩ := HY1.out.eleven); (obtain ⟨fy0, fy1, fy2, fy3, fy4, fy5, fy6, fy7, fy8, fy9, fy10⟩ := HY1.out.elevenF))
  refine bodyPost_ret (v := .tuple #[refD d (.slice la xs.length lc) (.slice wa ys.length wc) (.slice ka d.keep.length kc), .int .i64 1]) (by rw [HV.out]; simp [results, Tryd.results78, go_sem, y0, y1, y2, y3, y4, y5, y6, y7, y8, y9, y10]) rfl ?_
  refine GivesRC.of H.out HG.out ?_
  have h1 := HBW.out.trans (HB1.out.mono HBW.out.size)
  repeat (first | refine Below.setCell ?_ (by first | exact Nat.le_refl _ | exact Nat.le_succ _) _ | exact h1)

set_option maxRecDepth 100000 in
set_option maxHeartbeats 1000000 in
theorem refPut4_in {G : Nat → Prop} {w : World} {n : Nat} {d E : Bk.Disk} {k : Nat} {v : Value} (hr : RefAt G w v d) (ho : Bk.Ok n d) (hG : Held G w) (i : Nat) (hi : i < d.blocks) (hoff : d.off = false) (b : Bk.Blk) (bv : Value) (hb : BytesAt w bv b) (hbl : b.length = d.size) (hn : n ≤ 1000) (hE : Bk.burns (waits d i b) = (E, k)) :
    Calls Tryd.prog 78 #[v, .int .i64 (i : Int), bv] w fun e w' => GivesRC G w E k e w' ∧ Below w.heap.size w w' := by
  obtain ⟨ba, bc, rfl, -, -, -⟩ := id hb
  have HO := Lib.hid ho
  have HOFF := Lib.hid hoff
  have HE := Lib.hid hE
  have HI := Lib.hid hi
  have HB := Lib.hid hb
  have HBL := Lib.hid hbl
  have hbe : ((b.length : Int) != (d.size : Int)) = false := by simp; omega
  obtain ⟨lv, wv, kv, xs, ys, rfl, h⟩ := hr
  obtain ⟨la, lc, wa, wc, ka, kc, rfl, rfl, rfl⟩ := h.shape
  have H := Lib.hid h
  have HG := Lib.hid hG
  have HV := Lib.hid (show refD d (.slice la xs.length lc) (.slice wa ys.length wc) (.slice ka d.keep.length kc) = .agg #[.int .i64 (d.blocks : Int), .int .i64 (d.size : Int), .slice la xs.length lc, .slice wa ys.length wc, .bool d.lit, .int .i64 d.after, .int .i64 d.torn, .int .i64 d.cut, .slice ka d.keep.length kc, .bool false, .int .i64 d.count] by unfold refD; first | rw [hoff] | rfl)
  have hin := fun w0 => refIn4_is d (.slice la xs.length lc) (.slice wa ys.length wc) (.slice ka d.keep.length kc) (i : Int) true (decide_eq_true (show Bk.In d (i : Int) from ⟨by omega, by omega⟩)) w0
  simp only [HV.out] at hin
  rw [HV.out]
  have HIN := Lib.hid hin
  clear h hG hin ho hoff hE hi hb hbl
  go_enter Tryd.func78, Tryd.ntmps78
  go_upto_region 1 with fail
  refine wp_name fun W hW => ?_
  have HX := Lib.hid (show BoxAt W w.heap.size [.int .i64 (d.blocks : Int), .int .i64 (d.size : Int), .slice la xs.length lc, .slice wa ys.length wc, .bool d.lit, .int .i64 d.after, .int .i64 d.torn, .int .i64 d.cut, .slice ka d.keep.length kc, .bool false, .int .i64 d.count] by rw [hW]; exact (BoxAt.new w [_, _, _, _, _, _, _, _, _, _, _] _).alloc _)
  have HY := Lib.hid (show BoxAt W (w.heap.size + 1) zeroD by rw [hW]; exact BoxAt.newAt _ _ (by simp) [_, _, _, _, _, _, _, _, _, _, _] _)
  have HBW := Lib.hid (show Below w.heap.size w W by rw [hW]; go_grown)
  have hW2 : w.heap.size + 1 < W.heap.size := HY.out.lt
  clear hW
  obtain ⟨x0, x1, x2, x3, x4, x5, x6, x7, x8, x9, x10⟩ := HX.out.eleven
  go_upto_region 7 with (go_at_call 82; (refine (HIN.out _).mono ?_); (rintro e w1 ⟨rfl, hb1⟩); (have HB1 := Lib.hid hb1); (have HX1 := Lib.hid (HX.out.below hb1)); (have HY1 := Lib.hid (HY.out.below hb1)); (clear hb1 x0 x1 x2 x3 x4 x5 x6 x7 x8 x9 x10); (obtain ⟨x0, x1, x2, x3, x4, x5, x6, x7, x8, x9, x10⟩ := HX1.out.eleven); (obtain ⟨fx0, fx1, fx2, fx3, fx4, fx5, fx6, fx7, fx8, fx9, fx10⟩ := HX1.out.elevenF); (obtain ⟨y0, y1, y2, y3, y4, y5, y6, y7, y8, y9, y10⟩ := HY1.out.eleven); (obtain ⟨fy0, fy1, fy2, fy3, fy4, fy5, fy6, fy7, fy8, fy9, fy10⟩ := HY1.out.elevenF))
  have HWT := Lib.hid ((H.out.wait.below HBW.out).below HB1.out)
  have hs1 : w.heap.size < w1.heap.size := by have := HB1.out.size; omega
  have hs2 : w.heap.size + 1 < w1.heap.size := by have := HB1.out.size; omega
  have hyl : ys.length ≤ 1000 := by have := HO.out.many; have := H.out.ylen; omega
  go_upto_region 8 with (at_builtin; (refine wpList_append_row eWr eWr_ok rfl (.tmp 24) (.tmp 26) rfl w1.heap.size _ [] rfl (OwnR.empty w1 _ (Nat.le_refl _)) _ ys rfl (HWT.out.alloc _) (by simp; omega) (by simp; omega) (by simp) ?_); (intro v3 w3 ho3 hg3 hn3))
  have hb3 : Below w1.heap.size w1 w3 := ((Below.refl _ _).alloc (Nat.le_refl _) _).grown hg3 (by simp) (by intro k hk; cases hk; exact Nat.le_refl _)
  obtain ⟨a3, c3, rfl, -, -⟩ := ho3.slice
  have HO3 := Lib.hid (show OwnR eWr w3 w1.heap.size (.slice a3 ys.length c3) ys from ho3)
  have HB3 := Lib.hid hb3
  have HX3 := Lib.hid (HX1.out.below hb3)
  have HY3 := Lib.hid (HY1.out.below hb3)
  have HBY := Lib.hid (((HB.out.below HBW.out).below HB1.out).below hb3)
  have hs3 : w1.heap.size ≤ w3.heap.size := hb3.size
  have hbl2 : b.length ≤ 100000 := by have := HBL.out; have := HO.out.s; omega
  clear ho3 hg3 hn3 hb3 x0 x1 x2 x3 x4 x5 x6 x7 x8 x9 x10 fx0 fx1 fx2 fx3 fx4 fx5 fx6 fx7 fx8 fx9 fx10 y0 y1 y2 y3 y4 y5 y6 y7 y8 y9 y10 fy0 fy1 fy2 fy3 fy4 fy5 fy6 fy7 fy8 fy9 fy10
  go_upto_region 9 with (first
    | (at_builtin; (refine wpList_append_bytes rfl (.tmp 30) (.tmp 31) rfl w3.heap.size _ [] rfl (Own.empty w3 _ (Nat.le_refl _)) _ b rfl (HBY.out.alloc _) (by simp; omega) (by simp) ?_); (intro v4 w4 ho4 hg4 hn4); (obtain ⟨a4, c4, rfl, -, -⟩ := ho4.slice); (have HB4 := Lib.hid (((Below.refl w3.heap.size w3).alloc (Nat.le_refl _) (.cells #[] 5)).grown hg4 (by simp) (by intro k hk; cases hk; exact Nat.le_refl _))); (have HO4 := Lib.hid (show Own w4 w3.heap.size (.slice a4 b.length c4) b from ho4)); (have hs4 : w3.heap.size ≤ w4.heap.size := HB4.out.size); (clear ho4 hg4 hn4))
    | (at_builtin; (refine wpList_append_row eWr eWr_ok rfl (.tmp 28) (.tmp 34) rfl w1.heap.size _ ys rfl ((HO3.out.below HB4.out (Nat.le_refl _)).alloc _) _ [((i : Int), a4, b.length, c4)] rfl (RowAt.one w4 ((i : Int), a4, b.length, c4) #[.int .i64 (i : Int), .slice a4 b.length c4] 132 rfl _ rfl) (by simp; omega) (by simp; omega) (by simp; omega) ?_); (intro v5 w5 ho5 hg5 hn5); (obtain ⟨a5, c5, rfl, -, -⟩ := ho5.slice); (have HB5 := Lib.hid (((Below.refl w4.heap.size w4).alloc (Nat.le_refl _) (.cells #[.int .i64 (i : Int), .slice a4 b.length c4] 132)))); (have HG5 := Lib.hid (show World.grownBy _ w5 (Value.slice a3 ys.length c3).ownBlock from hg5)); (have HO5 := Lib.hid (show OwnR eWr w5 w1.heap.size (.slice a5 (ys.length + 1) c5) _ by simpa using ho5)); (have HX5 := Lib.hid (((HX3.out.below HB4.out).below HB5.out).grownR hg5 (HO3.out.ne_row hs1))); (have HY5 := Lib.hid (((HY3.out.below HB4.out).below HB5.out).grownR hg5 (HO3.out.ne_row hs2))); (have x3 := HX5.out.at 3 _ rfl); (have fx3 := HX5.out.free 3 _ rfl); (clear ho5 hg5 hn5)))
  refine wp_name fun V hV => ?_
  have hxv : BoxAt V w.heap.size [.int .i64 (d.blocks : Int), .int .i64 (d.size : Int), .slice la xs.length lc, .slice a5 (ys.length + 1) c5, .bool d.lit, .int .i64 d.after, .int .i64 d.torn, .int .i64 d.cut, .slice ka d.keep.length kc, .bool false, .int .i64 d.count] := by rw [hV]; exact HX5.out.put 3 _
  have hgv : w5.grownBy V (some w.heap.size) := by rw [hV]; exact grownBy_set (World.grownBy.refl _ _) _ _
  have HXV := Lib.hid hxv
  have HGV := Lib.hid hgv
  have HYV := Lib.hid (HY5.out.grownR hgv (by simp))
  clear hV hxv hgv x3 fx3
  have hs5 : w4.heap.size < w5.heap.size := by have := HG5.out.size; simp at this; omega
  have hsV : w5.heap.size ≤ V.heap.size := HGV.out.size
  have hall : Below w.heap.size w V := ((((((HBW.out.trans (HB1.out.mono HBW.out.size)).trans (HB3.out.mono (by omega))).trans (HB4.out.mono (by omega))).trans (HB5.out.mono (by omega))).grown HG5.out (by simp; omega) (fun k hk => by have := (HO3.out.lt k hk).1; omega))).grown HGV.out (by omega) (by intro k hk; cases hk; exact Nat.le_refl _)
  have hGm : ∀ k, (G k ∨ (w1.heap.size ≤ k ∧ k < V.heap.size)) → k ≠ w.heap.size ∧ k ≠ w.heap.size + 1 ∧ k < V.heap.size := fun k hk => by
    rcases hk with h | h
    · have := HG.out k h; omega
    · omega
  have hrow : RowAt eWr V (.slice a5 (ys.length + 1) c5) (ys ++ [((i : Int), a4, b.length, c4)]) := (HO5.out.grown HGV.out (.inr (HO5.out.ne_row hs1))).at eWr_ok
  have hlt4 : ∀ k, (Value.slice a4 b.length c4).ownBlock = some k → w3.heap.size ≤ k ∧ k < w4.heap.size := HO4.out.lt
  have hbV : BytesAt V (.slice a4 b.length c4) b := HO4.out.bytes.on fun k hk => by
    have h4 := hlt4 k hk
    rw [HGV.out.block k (by omega) (by intro e; cases e; omega), HG5.out.block k (by simp; omega) (fun e => by have := (HO3.out.lt k e.symm).2; omega), HB5.out.block k (by omega)]
  have hDV : DiskR (fun k => G k ∨ (w1.heap.size ≤ k ∧ k < V.heap.size)) V (waits d i b) (.slice la xs.length lc) (.slice a5 (ys.length + 1) c5) (.slice ka d.keep.length kc) xs (ys ++ [((i : Int), a4, b.length, c4)]) :=
    H.out.addWait (fun k hk => hall.block k (HG.out k hk)) (fun k hk => .inl hk) hrow (fun k hk => by have := HO5.out.lt k hk; exact .inr (by omega)) hbV (fun k hk => by have := hlt4 k hk; exact .inr (by omega))
  have hRV : RefAt (fun k => G k ∨ (w1.heap.size ≤ k ∧ k < V.heap.size)) V (.agg #[.int .i64 (d.blocks : Int), .int .i64 (d.size : Int), .slice la xs.length lc, .slice a5 (ys.length + 1) c5, .bool d.lit, .int .i64 d.after, .int .i64 d.torn, .int .i64 d.cut, .slice ka d.keep.length kc, .bool false, .int .i64 d.count]) (waits d i b) := by
    have e : refD (waits d i b) (.slice la xs.length lc) (.slice a5 (ys.length + 1) c5) (.slice ka d.keep.length kc) = .agg #[.int .i64 (d.blocks : Int), .int .i64 (d.size : Int), .slice la xs.length lc, .slice a5 (ys.length + 1) c5, .bool d.lit, .int .i64 d.after, .int .i64 d.torn, .int .i64 d.cut, .slice ka d.keep.length kc, .bool false, .int .i64 d.count] := by unfold refD waits; simp only [HOFF.out]
    rw [← e]
    exact hDV.at
  have HRV := Lib.hid hRV
  have HHV := Lib.hid (show Held (fun k => G k ∨ (w1.heap.size ≤ k ∧ k < V.heap.size)) V from fun k hk => (hGm k hk).2.2)
  have HOW := Lib.hid (HO.out.wait1 HI.out HBL.out)
  have HALL := Lib.hid hall
  have HGM := Lib.hid hGm
  clear hall hGm hrow hlt4 hbV hDV hRV HX1 HY1 HX3 HY3 HX5 HY5 HB4 HB5 HG5 HO3 HO4 HO5 HWT HBY
  obtain ⟨x0, x1, x2, x3, x4, x5, x6, x7, x8, x9, x10⟩ := HXV.out.eleven
  go_wp2_with (go_at_call 61; (refine (refBurns4_any HE.out HRV.out HOW.out HHV.out).mono ?_); (rintro e w6 ⟨⟨v6, rfl, hr6⟩, hb6⟩); (obtain ⟨lv6, wv6, kv6, xs6, ys6, rfl, h6⟩ := hr6); (obtain ⟨la6, lc6, wa6, wc6, ka6, kc6, rfl, rfl, rfl⟩ := h6.shape); (have H6 := Lib.hid h6); (have HB6 := Lib.hid hb6); (have HY6 := Lib.hid (HYV.out.below hb6)); (clear h6 hb6 x0 x1 x2 x3 x4 x5 x6 x7 x8 x9 x10); (obtain ⟨y0, y1, y2, y3, y4, y5, y6, y7, y8, y9, y10⟩ := HY6.out.eleven); (obtain ⟨fy0, fy1, fy2, fy3, fy4, fy5, fy6, fy7, fy8, fy9, fy10⟩ := HY6.out.elevenF); (unfold refD))
  refine bodyPost_ret (v := .tuple #[refD E (.slice la6 xs6.length lc6) (.slice wa6 ys6.length wc6) (.slice ka6 E.keep.length kc6), .int .i64 (k : Int)]) (by simp [results, Tryd.results78, go_sem, refD, y0, y1, y2, y3, y4, y5, y6, y7, y8, y9, y10]) rfl ?_
  have hs6 := HB6.out.size
  refine GivesRC.fin H6.out (fun j hj => ?_) ?_ (fun j hj => ?_)
  · rcases hj with (h | h) | h
    · exact .inl h
    · exact .inr ⟨by omega, by simp; omega⟩
    · exact .inr ⟨by omega, by simp; omega⟩
  · have h1 : Below w.heap.size w w6 := HALL.out.trans (HB6.out.mono (by omega))
    repeat (first | refine Below.setCell ?_ (by first | exact Nat.le_refl _ | exact Nat.le_succ _) _ | exact h1)
  · have h1 : w.heap.size + 1 ≠ j := by
      rcases hj with h | h
      · exact fun e => (HGM.out j h).2.1 e.symm
      · omega
    repeat (first | rw [heap_set_ne h1])
theorem refPut4 {G : Nat → Prop} {w : World} {n : Nat} {d : Bk.Disk} {v : Value} (hr : RefAt G w v d) (ho : Bk.Ok n d) (hG : Held G w) (i : Int) (b : Bk.Blk) (bv : Value) (hb : BytesAt w bv b) (hn : n ≤ 1000) :
    Calls Tryd.prog 78 #[v, .int .i64 i, bv] w fun e w' => GivesRC G w (Bk.put d i b).1 (Bk.put d i b).2 e w' ∧ Below w.heap.size w w' := by
  by_cases hi : Bk.In d i
  · obtain ⟨k, rfl⟩ : ∃ k : Nat, i = (k : Int) := ⟨i.toNat, by unfold Bk.In at hi; omega⟩
    have hk : k < d.blocks := by unfold Bk.In at hi; omega
    rw [put_in hk]
    cases hoff : d.off with
    | true => rw [if_pos rfl]; exact refPut4_off hr hG k hi hoff bv
    | false =>
      rw [if_neg (by simp)]
      by_cases hl : b.length = d.size
      · rw [if_pos hl]; exact refPut4_in hr ho hG k hk hoff b bv hb hl hn rfl
      · rw [if_neg hl]
        obtain ⟨a, c, rfl, -⟩ := hb
        exact refPut4_form hr hG k hi hoff a c b hl
  · rw [put_out (by unfold Bk.In at hi; omega)]
    exact refPut4_out hr hG i hi bv

end Go.Proofs.YtflbioiildndoaaDoor
