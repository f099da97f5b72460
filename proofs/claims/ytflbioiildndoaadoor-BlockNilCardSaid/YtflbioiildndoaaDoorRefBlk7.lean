/- the document's disks: Corrupt (printed by wip/tools/gen_refcor.py) -/
import Derived.Test.YtflbioiildndoaaDoorRefBlk6
namespace Go.Proofs.YtflbioiildndoaaDoor
open Go.RowKit
set_option linter.unusedVariables false
set_option linter.unusedSimpArgs false

set_option maxRecDepth 100000 in
set_option maxHeartbeats 1000000 in
theorem refCorrupt4_out {G : Nat → Prop} {w : World} {d : Bk.Disk} {v : Value} (hr : RefAt G w v d) (hG : Held G w) (i bit : Int) (mask : BitVec 32) (hi : ¬ Bk.In d i) :
    Calls Tryd.prog 94 #[v, .int .i64 i, .int .i64 bit, .int .u32 (mask.toNat : Int)] w fun e w' => GivesRC G w d 2 e w' ∧ Below w.heap.size w w' := by
  obtain ⟨lv, wv, kv, xs, ys, rfl, h⟩ := hr
  obtain ⟨la, lc, wa, wc, ka, kc, rfl, rfl, rfl⟩ := h.shape
  have H := Lib.hid h
  have HG := Lib.hid hG
  have HV := Lib.hid (show refD d (.slice la xs.length lc) (.slice wa ys.length wc) (.slice ka d.keep.length kc) = .agg #[.int .i64 (d.blocks : Int), .int .i64 (d.size : Int), .slice la xs.length lc, .slice wa ys.length wc, .bool d.lit, .int .i64 d.after, .int .i64 d.torn, .int .i64 d.cut, .slice ka d.keep.length kc, .bool d.off, .int .i64 d.count] by unfold refD; first | rw [hoff] | rfl)
  have hin := fun w0 => refIn4_is d (.slice la xs.length lc) (.slice wa ys.length wc) (.slice ka d.keep.length kc) i false (decide_eq_false hi) w0
  simp only [HV.out] at hin
  rw [HV.out]
  have HIN := Lib.hid hin
  clear h hG hin hi
  go_enter Tryd.func94, Tryd.ntmps94
  go_upto_region 1 with fail
  refine wp_name fun W hW => ?_
  have HX := Lib.hid (show BoxAt W w.heap.size [.int .i64 (d.blocks : Int), .int .i64 (d.size : Int), .slice la xs.length lc, .slice wa ys.length wc, .bool d.lit, .int .i64 d.after, .int .i64 d.torn, .int .i64 d.cut, .slice ka d.keep.length kc, .bool d.off, .int .i64 d.count] by rw [hW]; exact (BoxAt.new w [_, _, _, _, _, _, _, _, _, _, _] _).alloc _)
  have HY := Lib.hid (show BoxAt W (w.heap.size + 1) zeroD by rw [hW]; exact BoxAt.newAt _ _ (by simp) [_, _, _, _, _, _, _, _, _, _, _] _)
  have HBW := Lib.hid (show Below w.heap.size w W by rw [hW]; go_grown)
  have hW2 : w.heap.size + 1 < W.heap.size := HY.out.lt
  clear hW
  obtain ⟨x0, x1, x2, x3, x4, x5, x6, x7, x8, x9, x10⟩ := HX.out.eleven
  go_wp2_with (go_at_call 82; (refine (HIN.out _).mono ?_); (rintro e w1 ⟨rfl, hb1⟩); (have HB1 := Lib.hid hb1); (have HX1 := Lib.hid (HX.out.below hb1)); (have HY1 := Lib.hid (HY.out.below hb1)); (clear hb1 x0 x1 x2 x3 x4 x5 x6 x7 x8 x9 x10); (obtain ⟨x0, x1, x2, x3, x4, x5, x6, x7, x8, x9, x10⟩ := HX1.out.eleven); (obtain ⟨fx0, fx1, fx2, fx3, fx4, fx5, fx6, fx7, fx8, fx9, fx10⟩ := HX1.out.elevenF); (obtain ⟨y0, y1, y2, y3, y4, y5, y6, y7, y8, y9, y10⟩ := HY1.out.eleven); (obtain ⟨fy0, fy1, fy2, fy3, fy4, fy5, fy6, fy7, fy8, fy9, fy10⟩ := HY1.out.elevenF))
  refine bodyPost_ret (v := .tuple #[refD d (.slice la xs.length lc) (.slice wa ys.length wc) (.slice ka d.keep.length kc), .int .i64 2]) (by rw [HV.out]; simp [results, Tryd.results94, go_sem, y0, y1, y2, y3, y4, y5, y6, y7, y8, y9, y10]) rfl ?_
  refine GivesRC.of H.out HG.out ?_
  have h1 := HBW.out.trans (HB1.out.mono HBW.out.size)
  repeat (first | refine Below.setCell ?_ (by first | exact Nat.le_refl _ | exact Nat.le_succ _) _ | exact h1)

set_option maxRecDepth 100000 in
set_option maxHeartbeats 1000000 in
theorem refCorrupt4_neg {G : Nat → Prop} {w : World} {d : Bk.Disk} {v : Value} (hr : RefAt G w v d) (hG : Held G w) (i bit : Int) (mask : BitVec 32) (hi : Bk.In d i) (hb : bit < 0) :
    Calls Tryd.prog 94 #[v, .int .i64 i, .int .i64 bit, .int .u32 (mask.toNat : Int)] w fun e w' => GivesRC G w d 2 e w' ∧ Below w.heap.size w w' := by
  obtain ⟨lv, wv, kv, xs, ys, rfl, h⟩ := hr
  obtain ⟨la, lc, wa, wc, ka, kc, rfl, rfl, rfl⟩ := h.shape
  have H := Lib.hid h
  have HG := Lib.hid hG
  have HV := Lib.hid (show refD d (.slice la xs.length lc) (.slice wa ys.length wc) (.slice ka d.keep.length kc) = .agg #[.int .i64 (d.blocks : Int), .int .i64 (d.size : Int), .slice la xs.length lc, .slice wa ys.length wc, .bool d.lit, .int .i64 d.after, .int .i64 d.torn, .int .i64 d.cut, .slice ka d.keep.length kc, .bool d.off, .int .i64 d.count] by unfold refD; first | rw [hoff] | rfl)
  have hin := fun w0 => refIn4_is d (.slice la xs.length lc) (.slice wa ys.length wc) (.slice ka d.keep.length kc) i true (decide_eq_true hi) w0
  simp only [HV.out] at hin
  rw [HV.out]
  have HIN := Lib.hid hin
  clear h hG hin hi
  go_enter Tryd.func94, Tryd.ntmps94
  go_upto_region 1 with fail
  refine wp_name fun W hW => ?_
  have HX := Lib.hid (show BoxAt W w.heap.size [.int .i64 (d.blocks : Int), .int .i64 (d.size : Int), .slice la xs.length lc, .slice wa ys.length wc, .bool d.lit, .int .i64 d.after, .int .i64 d.torn, .int .i64 d.cut, .slice ka d.keep.length kc, .bool d.off, .int .i64 d.count] by rw [hW]; exact (BoxAt.new w [_, _, _, _, _, _, _, _, _, _, _] _).alloc _)
  have HY := Lib.hid (show BoxAt W (w.heap.size + 1) zeroD by rw [hW]; exact BoxAt.newAt _ _ (by simp) [_, _, _, _, _, _, _, _, _, _, _] _)
  have HBW := Lib.hid (show Below w.heap.size w W by rw [hW]; go_grown)
  have hW2 : w.heap.size + 1 < W.heap.size := HY.out.lt
  clear hW
  obtain ⟨x0, x1, x2, x3, x4, x5, x6, x7, x8, x9, x10⟩ := HX.out.eleven
  go_wp2_with (go_at_call 82; (refine (HIN.out _).mono ?_); (rintro e w1 ⟨rfl, hb1⟩); (have HB1 := Lib.hid hb1); (have HX1 := Lib.hid (HX.out.below hb1)); (have HY1 := Lib.hid (HY.out.below hb1)); (clear hb1 x0 x1 x2 x3 x4 x5 x6 x7 x8 x9 x10); (obtain ⟨x0, x1, x2, x3, x4, x5, x6, x7, x8, x9, x10⟩ := HX1.out.eleven); (obtain ⟨fx0, fx1, fx2, fx3, fx4, fx5, fx6, fx7, fx8, fx9, fx10⟩ := HX1.out.elevenF); (obtain ⟨y0, y1, y2, y3, y4, y5, y6, y7, y8, y9, y10⟩ := HY1.out.eleven); (obtain ⟨fy0, fy1, fy2, fy3, fy4, fy5, fy6, fy7, fy8, fy9, fy10⟩ := HY1.out.elevenF))
  refine bodyPost_ret (v := .tuple #[refD d (.slice la xs.length lc) (.slice wa ys.length wc) (.slice ka d.keep.length kc), .int .i64 2]) (by rw [HV.out]; simp [results, Tryd.results94, go_sem, y0, y1, y2, y3, y4, y5, y6, y7, y8, y9, y10]) rfl ?_
  refine GivesRC.of H.out HG.out ?_
  have h1 := HBW.out.trans (HB1.out.mono HBW.out.size)
  repeat (first | refine Below.setCell ?_ (by first | exact Nat.le_refl _ | exact Nat.le_succ _) _ | exact h1)

set_option maxRecDepth 100000 in
set_option maxHeartbeats 1000000 in
theorem refCorrupt4_big {G : Nat → Prop} {w : World} {d : Bk.Disk} {v : Value} (hr : RefAt G w v d) (hG : Held G w) (i bit : Int) (mask : BitVec 32) (hi : Bk.In d i) (hb : 0 ≤ bit) (hsz : d.size ≤ 1024) (hb2 : 8 * (d.size : Int) ≤ bit) :
    Calls Tryd.prog 94 #[v, .int .i64 i, .int .i64 bit, .int .u32 (mask.toNat : Int)] w fun e w' => GivesRC G w d 2 e w' ∧ Below w.heap.size w w' := by
  obtain ⟨lv, wv, kv, xs, ys, rfl, h⟩ := hr
  obtain ⟨la, lc, wa, wc, ka, kc, rfl, rfl, rfl⟩ := h.shape
  have H := Lib.hid h
  have HG := Lib.hid hG
  have HV := Lib.hid (show refD d (.slice la xs.length lc) (.slice wa ys.length wc) (.slice ka d.keep.length kc) = .agg #[.int .i64 (d.blocks : Int), .int .i64 (d.size : Int), .slice la xs.length lc, .slice wa ys.length wc, .bool d.lit, .int .i64 d.after, .int .i64 d.torn, .int .i64 d.cut, .slice ka d.keep.length kc, .bool d.off, .int .i64 d.count] by unfold refD; first | rw [hoff] | rfl)
  have hin := fun w0 => refIn4_is d (.slice la xs.length lc) (.slice wa ys.length wc) (.slice ka d.keep.length kc) i true (decide_eq_true hi) w0
  simp only [HV.out] at hin
  rw [HV.out]
  have HIN := Lib.hid hin
  clear h hG hin hi
  go_enter Tryd.func94, Tryd.ntmps94
  go_upto_region 1 with fail
  refine wp_name fun W hW => ?_
  have HX := Lib.hid (show BoxAt W w.heap.size [.int .i64 (d.blocks : Int), .int .i64 (d.size : Int), .slice la xs.length lc, .slice wa ys.length wc, .bool d.lit, .int .i64 d.after, .int .i64 d.torn, .int .i64 d.cut, .slice ka d.keep.length kc, .bool d.off, .int .i64 d.count] by rw [hW]; exact (BoxAt.new w [_, _, _, _, _, _, _, _, _, _, _] _).alloc _)
  have HY := Lib.hid (show BoxAt W (w.heap.size + 1) zeroD by rw [hW]; exact BoxAt.newAt _ _ (by simp) [_, _, _, _, _, _, _, _, _, _, _] _)
  have HBW := Lib.hid (show Below w.heap.size w W by rw [hW]; go_grown)
  have hW2 : w.heap.size + 1 < W.heap.size := HY.out.lt
  clear hW
  obtain ⟨x0, x1, x2, x3, x4, x5, x6, x7, x8, x9, x10⟩ := HX.out.eleven
  go_wp2_with (go_at_call 82; (refine (HIN.out _).mono ?_); (rintro e w1 ⟨rfl, hb1⟩); (have HB1 := Lib.hid hb1); (have HX1 := Lib.hid (HX.out.below hb1)); (have HY1 := Lib.hid (HY.out.below hb1)); (clear hb1 x0 x1 x2 x3 x4 x5 x6 x7 x8 x9 x10); (obtain ⟨x0, x1, x2, x3, x4, x5, x6, x7, x8, x9, x10⟩ := HX1.out.eleven); (obtain ⟨fx0, fx1, fx2, fx3, fx4, fx5, fx6, fx7, fx8, fx9, fx10⟩ := HX1.out.elevenF); (obtain ⟨y0, y1, y2, y3, y4, y5, y6, y7, y8, y9, y10⟩ := HY1.out.eleven); (obtain ⟨fy0, fy1, fy2, fy3, fy4, fy5, fy6, fy7, fy8, fy9, fy10⟩ := HY1.out.elevenF))
  refine bodyPost_ret (v := .tuple #[refD d (.slice la xs.length lc) (.slice wa ys.length wc) (.slice ka d.keep.length kc), .int .i64 2]) (by rw [HV.out]; simp [results, Tryd.results94, go_sem, y0, y1, y2, y3, y4, y5, y6, y7, y8, y9, y10]) rfl ?_
  refine GivesRC.of H.out HG.out ?_
  have h1 := HBW.out.trans (HB1.out.mono HBW.out.size)
  repeat (first | refine Below.setCell ?_ (by first | exact Nat.le_refl _ | exact Nat.le_succ _) _ | exact h1)

set_option maxRecDepth 100000 in
set_option maxHeartbeats 1000000 in
theorem refCorrupt4_in {G : Nat → Prop} {w : World} {n : Nat} {d : Bk.Disk} {v : Value} (hr : RefAt G w v d) (ho : Bk.Ok n d) (hG : Held G w) (i bit : Nat) (mask : BitVec 32) (hi : i < d.blocks) (hb2 : (bit : Int) < 8 * (d.size : Int)) {E : Bk.Disk} (hE : { d with lasting := d.lasting.set i (changed (Bk.lastB d i) bit mask 32) } = E) :
    Calls Tryd.prog 94 #[v, .int .i64 (i : Int), .int .i64 (bit : Int), .int .u32 (mask.toNat : Int)] w fun e w' => GivesRC G w E 0 e w' ∧ Below w.heap.size w w' := by
  have HO := Lib.hid ho
  have HE := Lib.hid hE
  have HI := Lib.hid hi
  have hsz := ho.s
  have hsz1 : d.size ≤ 1024 := hsz.2
  have hold := (ho.lastB hi).2
  have holdl := (ho.lastB hi).1
  obtain ⟨old, hold2⟩ : ∃ old, Bk.lastB d i = old := ⟨_, rfl⟩
  rw [hold2] at hold holdl
  have HOLD := Lib.hid hold
  have HOLD2 := Lib.hid hold2
  have HOLDL := Lib.hid holdl
  have hbl : d.blocks ≤ 256 := ho.b.2
  have hxn : d.lasting.length = d.blocks := ho.len
  have HXN := Lib.hid hxn
  have hbit0 : (0 : Int) ≤ (bit : Int) := by omega
  have hi0 : (0 : Int) ≤ (i : Int) := by omega
  obtain ⟨lv, wv, kv, xs, ys, rfl, h⟩ := hr
  obtain ⟨la, lc, wa, wc, ka, kc, rfl, rfl, rfl⟩ := h.shape
  have H := Lib.hid h
  have HG := Lib.hid hG
  have HV := Lib.hid (show refD d (.slice la xs.length lc) (.slice wa ys.length wc) (.slice ka d.keep.length kc) = .agg #[.int .i64 (d.blocks : Int), .int .i64 (d.size : Int), .slice la xs.length lc, .slice wa ys.length wc, .bool d.lit, .int .i64 d.after, .int .i64 d.torn, .int .i64 d.cut, .slice ka d.keep.length kc, .bool d.off, .int .i64 d.count] by unfold refD; first | rw [hoff] | rfl)
  have hin := fun w0 => refIn4_is d (.slice la xs.length lc) (.slice wa ys.length wc) (.slice ka d.keep.length kc) (i : Int) true (decide_eq_true (show Bk.In d (i : Int) from ⟨by omega, by omega⟩)) w0
  simp only [HV.out] at hin
  rw [HV.out]
  have HIN := Lib.hid hin
  clear h hG hin ho hE hi hold holdl hold2 hsz hxn
  go_enter Tryd.func94, Tryd.ntmps94
  go_upto_region 1 with fail
  refine wp_name fun W hW => ?_
  have HX := Lib.hid (show BoxAt W w.heap.size [.int .i64 (d.blocks : Int), .int .i64 (d.size : Int), .slice la xs.length lc, .slice wa ys.length wc, .bool d.lit, .int .i64 d.after, .int .i64 d.torn, .int .i64 d.cut, .slice ka d.keep.length kc, .bool d.off, .int .i64 d.count] by rw [hW]; exact (BoxAt.new w [_, _, _, _, _, _, _, _, _, _, _] _).alloc _)
  have HY := Lib.hid (show BoxAt W (w.heap.size + 1) zeroD by rw [hW]; exact BoxAt.newAt _ _ (by simp) [_, _, _, _, _, _, _, _, _, _, _] _)
  have HBW := Lib.hid (show Below w.heap.size w W by rw [hW]; go_grown)
  have hW2 : w.heap.size + 1 < W.heap.size := HY.out.lt
  clear hW
  obtain ⟨x0, x1, x2, x3, x4, x5, x6, x7, x8, x9, x10⟩ := HX.out.eleven
  obtain ⟨lg, lo, lc2, x, elv, hl1, hl2, hzl, lcell, lby, lG⟩ := H.out.lastR.cell HOLD.out
  simp only [Value.slice.injEq, true_and] at elv
  obtain ⟨rfl, rfl⟩ := elv
  unfold maxLen at hl2
  have hi1 : (i : Int) < (xs.length : Int) := by omega
  have hxs : xs.length ≤ 256 := by have := H.out.xlen; have := HXN.out; omega
  have LBY := Lib.hid lby
  clear lby lG
  go_upto_region 3 with (go_at_call 82; (refine (HIN.out _).mono ?_); (rintro e w1 ⟨rfl, hb1⟩); (have HB1 := Lib.hid hb1); (have HX1 := Lib.hid (HX.out.below hb1)); (have HY1 := Lib.hid (HY.out.below hb1)); (clear hb1 x0 x1 x2 x3 x4 x5 x6 x7 x8 x9 x10); (obtain ⟨x0, x1, x2, x3, x4, x5, x6, x7, x8, x9, x10⟩ := HX1.out.eleven); (obtain ⟨fx0, fx1, fx2, fx3, fx4, fx5, fx6, fx7, fx8, fx9, fx10⟩ := HX1.out.elevenF); (obtain ⟨y0, y1, y2, y3, y4, y5, y6, y7, y8, y9, y10⟩ := HY1.out.eleven); (obtain ⟨fy0, fy1, fy2, fy3, fy4, fy5, fy6, fy7, fy8, fy9, fy10⟩ := HY1.out.elevenF))
  have hw1 : Below w.heap.size w w1 := HBW.out.trans (HB1.out.mono HBW.out.size)
  have lcell' := (hw1.cell (World.block_lt_of_cell? w _ lcell)).trans lcell
  have HW1 := Lib.hid hw1
  have hws : W.heap.size ≤ w1.heap.size := HB1.out.size
  have fx2' := fx2
  clear lcell hw1
  have n2 := Near.cell (w := w1.drew) (row := none) x2 (by simp)
  have n3 := Near.cell (w := w1.drew) (row := none) lcell' (by simp)
  refine wp_region_mix (fun w' => ∃ x : Near w1.drew none, w' = x.world) [13] 14 (by kernel_rfl) rfl ?_
  refine mix_reads_lit [0, 1, 2, 3, 4, 5, 6, 7, 8, 9] 4 (by kernel_rfl) (by kernel_rfl) (by kernel_rfl) (by kernel_rfl) rfl (NearC.of (World.grownBy.refl _ _)) ?_
  simp only [pick, List.filterMap_cons, List.filterMap_nil, List.getElem?_cons_succ, List.getElem?_cons_zero]
  repeat (first | go_big_quiet_step (fail) | quiet_step (fail))
  refine wpQuiet_nil ?_
  refine mix_deed_lit 10 3 (by kernel_rfl) (by kernel_rfl) rfl (fun K hK => ?_)
  simp only [comesUp, List.getElem?_cons_succ, List.getElem?_cons_zero]
  refine if_mk rfl ?_
  go_simp
  refine (changed_any _ old bit mask _ ((LBY.out.below HW1.out).below (Below.refl _ _).drew) (by have := HOLDL.out; omega) (by omega)).mono ?_
  rintro e w2 ⟨⟨v2, rfl, ho2⟩, hb2'⟩
  obtain ⟨a2, c2, rfl, -, -⟩ := ho2.slice
  refine hK _ _ (fun _ _ => NearC.of (grown_of_below hb2' (Nat.le_refl _) _)) ?_
  clear hK K
  refine mix_deed_lit 11 2 (by kernel_rfl) (by kernel_rfl) rfl (fun K hK => ?_)
  simp only [comesUp, List.getElem?_cons_succ, List.getElem?_cons_zero]
  refine if_mk rfl ?_
  go_simp
  refine (refWith_any _ xs i (a2, (changed old bit mask 32).length, c2) _ ((H.out.last.below HW1.out).below ((Below.refl _ _).drew.trans hb2')) hzl (by omega)).mono ?_
  rintro e w3 ⟨⟨v3, rfl, ho3⟩, hb3⟩
  have hb23 : Below w1.heap.size w1 w3 := (Below.refl _ _).drew.trans (below_step hb2' hb3)
  have HX3 := Lib.hid (HX1.out.below hb23)
  have HY3 := Lib.hid (HY1.out.below hb23)
  refine hK _ _ (fun _ _ => NearC.of (grown_of_below (below_step hb2' hb3) (Nat.le_refl _) _)) ?_
  clear hK K
  refine mix_reads_lit [12] 1 (by kernel_rfl) (by kernel_rfl) (by kernel_rfl) (by kernel_rfl) rfl (NearC.of (grown_of_below (below_step hb2' hb3) (Nat.le_refl _) _)) ?_
  simp only [pick, List.filterMap_cons, List.filterMap_nil, List.getElem?_cons_succ, List.getElem?_cons_zero]
  repeat (first | go_big_quiet_step (fail) | quiet_step (fail))
  refine wpQuiet_nil ?_
  obtain ⟨a3, c3, rfl, -, -⟩ := ho3.slice
  have q3 := HX3.out.at 2 _ rfl
  have r3 := HX3.out.free 2 _ rfl
  have HO2 := Lib.hid ho2
  have HO3 := Lib.hid ho3
  have HB23 := Lib.hid hb23
  have HB2 := Lib.hid (show Below w1.heap.size w1.drew w2 from hb2')
  have HB3 := Lib.hid hb3
  have hs2 : w1.heap.size ≤ w2.heap.size := hb2'.size
  have hs3 : w2.heap.size ≤ w3.heap.size := hb3.size
  clear ho2 ho3 hb2' hb3 hb23 n2 n3 x0 x1 x2 x3 x4 x5 x6 x7 x8 x9 x10 fx0 fx1 fx2 fx3 fx4 fx5 fx6 fx7 fx8 fx9 fx10 fx2' y0 y1 y2 y3 y4 y5 y6 y7 y8 y9 y10 fy0 fy1 fy2 fy3 fy4 fy5 fy6 fy7 fy8 fy9 fy10 lcell'
  refine mix_deed_lit 13 0 (by kernel_rfl) (by kernel_rfl) rfl (fun K hK => ?_)
  simp only [comesUp, List.getElem?_cons_succ, List.getElem?_cons_zero]
  refine if_mk rfl ?_
  go_simp
  refine hK _ _ (fun h => by simp [keeps] at h) ?_
  clear hK K
  refine mix_done_lit (by kernel_rfl) ?_
  go_upto_region 4 with fail
  refine wp_name fun V hV => ?_
  have hxl : (xs.set i (a2, (changed old bit mask 32).length, c2)).length = xs.length := by simp
  have hxv : BoxAt V w.heap.size [.int .i64 (d.blocks : Int), .int .i64 (d.size : Int), .slice a3 xs.length c3, .slice wa ys.length wc, .bool d.lit, .int .i64 d.after, .int .i64 d.torn, .int .i64 d.cut, .slice ka d.keep.length kc, .bool d.off, .int .i64 d.count] := by rw [hV]; exact HX3.out.put 2 _
  have hgv : w3.grownBy V (some w.heap.size) := by rw [hV]; exact grownBy_set (World.grownBy.refl _ _) _ _
  have HXV := Lib.hid hxv
  have HGV := Lib.hid hgv
  have HYV := Lib.hid (HY3.out.grownR hgv (by simp))
  clear hV hxv hgv q3 r3 HX1 HY1 HX3 HY3
  have hsV : w3.heap.size ≤ V.heap.size := HGV.out.size
  have hall : Below w.heap.size w V := (HW1.out.trans (HB23.out.mono (by have := HBW.out.size; omega))).grown HGV.out (by have := HBW.out.size; omega) (by intro k hk; cases hk; exact Nat.le_refl _)
  have hDV : DiskR (fun k => G k ∨ (w1.heap.size ≤ k ∧ k < V.heap.size)) V E (.slice a3 xs.length c3) (.slice wa ys.length wc) (.slice ka d.keep.length kc) (xs.set i (a2, (changed old bit mask 32).length, c2)) ys := by
    have hV' := (H.out.on (fun k hk => hall.block k (HG.out k hk))).mono (fun k hk => (.inl hk : (fun k => G k ∨ (w1.heap.size ≤ k ∧ k < V.heap.size)) k))
    have hbytes : BytesAt V (.slice a2 (changed old bit mask 32).length c2) (changed old bit mask 32) := HO2.out.bytes.on fun k hk => by
      have h4 : w1.heap.size ≤ k ∧ k < w2.heap.size := HO2.out.lt k hk
      rw [HGV.out.block k (by omega) (by intro e; cases e; omega), HB3.out.block k h4.2]
    have hL := hV'.lastR.set (w' := V) (lv' := .slice a3 xs.length c3) (i := i) (x := (a2, (changed old bit mask 32).length, c2)) (b := changed old bit mask 32) (Below.refl _ _) (fun k hk => hk)
      (by
        have h5 := (HO3.out.grown HGV.out (.inr (HO3.out.ne_row (by omega)))).at eSl_ok
        rwa [hxl] at h5)
      (fun k hk => by have h6 := HO3.out.lt k (by rw [hxl]; exact hk); exact .inr (by omega))
      hbytes (fun k hk => by have h4 : w1.heap.size ≤ k ∧ k < w2.heap.size := HO2.out.lt k hk; exact .inr (by omega))
    rw [← HE.out, HOLD2.out]
    exact ⟨hL.row, hV'.wait, hV'.keep, hL.inG, hV'.waitG, hV'.keepG, hL.len, hL.each, hV'.ylen, hV'.yeach⟩
  have HDV := Lib.hid hDV
  have HALL := Lib.hid hall
  clear hDV hall
  obtain ⟨x0, x1, x2, x3, x4, x5, x6, x7, x8, x9, x10⟩ := HXV.out.eleven
  obtain ⟨y0, y1, y2, y3, y4, y5, y6, y7, y8, y9, y10⟩ := HYV.out.eleven
  obtain ⟨fy0, fy1, fy2, fy3, fy4, fy5, fy6, fy7, fy8, fy9, fy10⟩ := HYV.out.elevenF
  go_wp2_with fail
  have ev : refD E (.slice a3 xs.length c3) (.slice wa ys.length wc) (.slice ka d.keep.length kc) = .agg #[.int .i64 (d.blocks : Int), .int .i64 (d.size : Int), .slice a3 xs.length c3, .slice wa ys.length wc, .bool d.lit, .int .i64 d.after, .int .i64 d.torn, .int .i64 d.cut, .slice ka d.keep.length kc, .bool d.off, .int .i64 d.count] := by rw [← HE.out]; rfl
  refine bodyPost_ret (v := .tuple #[refD E (.slice a3 xs.length c3) (.slice wa ys.length wc) (.slice ka d.keep.length kc), .int .i64 0]) (by rw [ev]; simp [results, Tryd.results94, go_sem, y0, y1, y2, y3, y4, y5, y6, y7, y8, y9, y10]) rfl ?_
  refine GivesRC.fin HDV.out (fun j hj => ?_) ?_ (fun j hj => ?_)
  · rcases hj with h | h
    · exact .inl h
    · exact .inr ⟨by omega, by simp; omega⟩
  · have h1 := HALL.out
    repeat (first | refine Below.setCell ?_ (by first | exact Nat.le_refl _ | exact Nat.le_succ _) _ | exact h1)
  · have h1 : w.heap.size + 1 ≠ j := by
      rcases hj with h | h
      · have := HG.out j h; omega
      · omega
    repeat (first | rw [heap_set_ne h1])
theorem refCorrupt4 {G : Nat → Prop} {w : World} {n : Nat} {d : Bk.Disk} {v : Value} (hr : RefAt G w v d) (ho : Bk.Ok n d) (hG : Held G w) (i bit : Int) (mask : BitVec 32) :
    Calls Tryd.prog 94 #[v, .int .i64 i, .int .i64 bit, .int .u32 (mask.toNat : Int)] w fun e w' => GivesRC G w (Bk.corrupt d i bit mask).1 (Bk.corrupt d i bit mask).2 e w' ∧ Below w.heap.size w w' := by
  have hs := ho.s
  unfold Bk.corrupt
  by_cases hi : Bk.In d i
  · by_cases hb : bit < 0
    · rw [if_neg (by omega)]; exact refCorrupt4_neg hr hG i bit mask hi hb
    · by_cases hb2 : bit < 8 * (d.size : Int)
      · rw [if_pos ⟨hi, by omega, hb2⟩]
        obtain ⟨k, rfl⟩ : ∃ k : Nat, i = (k : Int) := ⟨i.toNat, by unfold Bk.In at hi; omega⟩
        obtain ⟨b, rfl⟩ : ∃ k : Nat, bit = (k : Int) := ⟨bit.toNat, by omega⟩
        exact refCorrupt4_in hr ho hG k b mask (by unfold Bk.In at hi; omega) hb2 rfl
      · rw [if_neg (by omega)]; exact refCorrupt4_big hr hG i bit mask hi (by omega) (by omega) (by omega)
  · rw [if_neg (fun h => hi h.1)]; exact refCorrupt4_out hr hG i bit mask hi

end Go.Proofs.YtflbioiildndoaaDoor
