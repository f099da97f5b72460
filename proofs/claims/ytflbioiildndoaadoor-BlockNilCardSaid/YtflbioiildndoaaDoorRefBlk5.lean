/- the document's disks: Flush, Put, Corrupt, New -/
import Derived.Test.YtflbioiildndoaaDoorRefBlk4
namespace Go.Proofs.YtflbioiildndoaaDoor
open Go.RowKit
set_option linter.unusedVariables false
set_option linter.unusedSimpArgs false

theorem fill11 {w : World} {r : Nat} {a0 a1 a2 a3 a4 a5 a6 a7 a8 a9 a10 : Value} (h : BoxAt w r [a0, a1, a2, a3, a4, a5, a6, a7, a8, a9, a10]) (v0 v1 v2 v3 v4 v5 v6 v7 v8 v9 v10 : Value) :
    BoxAt (((((((((((w.setCell ⟨r, 0, none⟩ v0).setCell ⟨r, 1, none⟩ v1).setCell ⟨r, 2, none⟩ v2).setCell ⟨r, 3, none⟩ v3).setCell ⟨r, 4, none⟩ v4).setCell ⟨r, 5, none⟩ v5).setCell ⟨r, 6, none⟩ v6).setCell ⟨r, 7, none⟩ v7).setCell ⟨r, 8, none⟩ v8).setCell ⟨r, 9, none⟩ v9).setCell ⟨r, 10, none⟩ v10) r [v0, v1, v2, v3, v4, v5, v6, v7, v8, v9, v10] ∧
    w.grownBy (((((((((((w.setCell ⟨r, 0, none⟩ v0).setCell ⟨r, 1, none⟩ v1).setCell ⟨r, 2, none⟩ v2).setCell ⟨r, 3, none⟩ v3).setCell ⟨r, 4, none⟩ v4).setCell ⟨r, 5, none⟩ v5).setCell ⟨r, 6, none⟩ v6).setCell ⟨r, 7, none⟩ v7).setCell ⟨r, 8, none⟩ v8).setCell ⟨r, 9, none⟩ v9).setCell ⟨r, 10, none⟩ v10) (some r) := by
  refine ⟨?_, ?_⟩
  · have h2 := ((((((((((h.put 0 v0).put 1 v1).put 2 v2).put 3 v3).put 4 v4).put 5 v5).put 6 v6).put 7 v7).put 8 v8).put 9 v9).put 10 v10
    simp only [List.set_cons_zero, List.set_cons_succ] at h2
    exact h2
  · repeat (first | refine grownBy_set ?_ _ _ | exact World.grownBy.refl _ _)
theorem GivesRC.fin {G G2 : Nat → Prop} {w wr w' : World} {d : Bk.Disk} {k : Nat} {lv wv kv : Value} {xs : List Sl3} {ys : List (Int × Sl3)} (h : DiskR G2 wr d lv wv kv xs ys) (hG2 : ∀ k, G2 k → More G w w' k) (hb : Below w.heap.size w w') (hsafe : ∀ k, G2 k → w'.heap[k]? = wr.heap[k]?) : GivesRC G w d k (.returned (.tuple #[refD d lv wv kv, .int .i64 (k : Int)])) w' ∧ Below w.heap.size w w' :=
  ⟨⟨_, rfl, _, _, _, _, _, rfl, (h.on hsafe).mono hG2⟩, hb⟩
theorem DiskR.at {G : Nat → Prop} {w : World} {d : Bk.Disk} {lv wv kv : Value} {xs : List Sl3} {ys : List (Int × Sl3)} (h : DiskR G w d lv wv kv xs ys) : RefAt G w (refD d lv wv kv) d := ⟨_, _, _, _, _, rfl, h⟩
abbrev zeroD : List Value := [.int .i64 0, .int .i64 0, .slice none 0 0, .slice none 0 0, .bool false, .int .i64 0, .int .i64 0, .int .i64 0, .slice none 0 0, .bool false, .int .i64 0]
set_option maxRecDepth 100000 in
set_option maxHeartbeats 1000000 in
theorem refFlush4_off {G : Nat → Prop} {w : World} {d : Bk.Disk} {v : Value} (hr : RefAt G w v d) (hG : Held G w) (hoff : d.off = true) :
    Calls Tryd.prog 23 #[v] w fun e w' => GivesRC G w d 7 e w' ∧ Below w.heap.size w w' := by
  obtain ⟨lv, wv, kv, xs, ys, rfl, h⟩ := hr
  obtain ⟨la, lc, wa, wc, ka, kc, rfl, rfl, rfl⟩ := h.shape
  have H := Lib.hid h
  have HG := Lib.hid hG
  have HO := Lib.hid hoff
  clear h hG
  unfold refD
  rw [hoff]
  clear hoff
  go_enter Tryd.func23, Tryd.ntmps23
  go_wp2_with fail
  refine bodyPost_ret (v := .tuple #[refD d (.slice la xs.length lc) (.slice wa ys.length wc) (.slice ka d.keep.length kc), .int .i64 7]) (by simp [results, Tryd.results23, go_sem, refD, HO.out]) rfl ?_
  exact GivesRC.of H.out HG.out (by go_grown)
theorem refBurns4_blow' {G : Nat → Prop} {w : World} {n : Nat} {d E : Bk.Disk} {v : Value} (hE : Bk.blown d = E) (hr : RefAt G w v d) (ho : Bk.Ok n d) (hG : Held G w) (hb : Bk.blows d) :
    Calls Tryd.prog 61 #[v] w fun e w' => GivesRC G w E 7 e w' ∧ Below w.heap.size w w' := by subst hE; exact refBurns4_blow hr ho hG hb
theorem refBurns4_tick' {G : Nat → Prop} {w : World} {d E : Bk.Disk} {v : Value} (hE : Bk.ticked d = E) (hr : RefAt G w v d) (hG : Held G w) (hb : ¬ Bk.blows d) :
    Calls Tryd.prog 61 #[v] w fun e w' => GivesRC G w E 0 e w' ∧ Below w.heap.size w w' := by subst hE; exact refBurns4_tick hr hG hb
theorem refAll4' {G : Nat → Prop} {w : World} {n : Nat} {d E : Bk.Disk} {v : Value} (hE : Bk.all d = E) (hr : RefAt G w v d) (ho : Bk.Ok n d) (hG : Held G w) :
    Calls Tryd.prog 62 #[v] w fun e w' => GivesR G w E e w' ∧ Below w.heap.size w w' := by subst hE; exact refAll4 hr ho hG
set_option maxRecDepth 100000 in
set_option maxHeartbeats 1000000 in
theorem refFlush4_blow {G : Nat → Prop} {w : World} {n : Nat} {d E : Bk.Disk} {v : Value} (hr : RefAt G w v d) (ho : Bk.Ok n d) (hG : Held G w) (hoff : d.off = false) (hb : Bk.blows d) (hE : Bk.blown d = E) :
    Calls Tryd.prog 23 #[v] w fun e w' => GivesRC G w E 7 e w' ∧ Below w.heap.size w w' := by
  have HR := Lib.hid hr
  obtain ⟨lv, wv, kv, xs, ys, rfl, h⟩ := hr
  obtain ⟨la, lc, wa, wc, ka, kc, rfl, rfl, rfl⟩ := h.shape
  have HG := Lib.hid hG
  have HO := Lib.hid ho
  have HBL := Lib.hid hb
  have HE := Lib.hid hE
  have HV := Lib.hid (show refD d (.slice la xs.length lc) (.slice wa ys.length wc) (.slice ka d.keep.length kc) = .agg #[.int .i64 (d.blocks : Int), .int .i64 (d.size : Int), .slice la xs.length lc, .slice wa ys.length wc, .bool d.lit, .int .i64 d.after, .int .i64 d.torn, .int .i64 d.cut, .slice ka d.keep.length kc, .bool false, .int .i64 d.count] by unfold refD; rw [hoff])
  clear h hG ho hoff hb hE
  rw [HV.out]
  go_enter Tryd.func23, Tryd.ntmps23
  go_upto_region 1 with fail
  refine wp_name fun W hW => ?_
  have HX := Lib.hid (show BoxAt W w.heap.size [.int .i64 (d.blocks : Int), .int .i64 (d.size : Int), .slice la xs.length lc, .slice wa ys.length wc, .bool d.lit, .int .i64 d.after, .int .i64 d.torn, .int .i64 d.cut, .slice ka d.keep.length kc, .bool false, .int .i64 d.count] by rw [hW]; exact (BoxAt.new w [_, _, _, _, _, _, _, _, _, _, _] _).alloc _)
  have HY := Lib.hid (show BoxAt W (w.heap.size + 1) zeroD by rw [hW]; exact BoxAt.newAt _ _ (by simp) [_, _, _, _, _, _, _, _, _, _, _] _)
  have HB := Lib.hid (show Below w.heap.size w W by rw [hW]; go_grown)
  clear hW
  have hGW : Held G W := fun k hk => Nat.lt_of_lt_of_le (HG.out k hk) HB.out.size
  have hRW : RefAt G W (refD d (.slice la xs.length lc) (.slice wa ys.length wc) (.slice ka d.keep.length kc)) d := HR.out.below HG.out HB.out
  rw [HV.out] at hRW
  have HRW := Lib.hid hRW
  have HGW := Lib.hid hGW
  have hW2 : w.heap.size + 1 < W.heap.size := HY.out.lt
  clear hRW hGW
  obtain ⟨x0, x1, x2, x3, x4, x5, x6, x7, x8, x9, x10⟩ := HX.out.eleven
  go_upto_region 3 with fail
  clear HV HR
  go_upto_region 4 with (go_at_call 61; (refine (refBurns4_blow' HE.out HRW.out HO.out HGW.out HBL.out).mono ?_); (rintro e w2 ⟨⟨v2, rfl, hr2⟩, hb2⟩); (obtain ⟨lv2, wv2, kv2, xs2, ys2, rfl, h2⟩ := hr2); (obtain ⟨la2, lc2, wa2, wc2, ka2, kc2, rfl, rfl, rfl⟩ := h2.shape); (have H2 := Lib.hid h2); (have HB2 := Lib.hid hb2); (have HX2 := Lib.hid (HX.out.below hb2)); (have HY2 := Lib.hid (HY.out.below hb2)); (clear h2 hb2 x0 x1 x2 x3 x4 x5 x6 x7 x8 x9 x10); (obtain ⟨x0, x1, x2, x3, x4, x5, x6, x7, x8, x9, x10⟩ := HX2.out.eleven); (obtain ⟨fx0, fx1, fx2, fx3, fx4, fx5, fx6, fx7, fx8, fx9, fx10⟩ := HX2.out.elevenF); (unfold refD))
  refine wp_name fun V hV => ?_
  have hf := fill11 HX2.out (.int .i64 (E.blocks : Int)) (.int .i64 (E.size : Int)) (.slice la2 xs2.length lc2) (.slice wa2 ys2.length wc2) (.bool E.lit) (.int .i64 E.after) (.int .i64 E.torn) (.int .i64 E.cut) (.slice ka2 E.keep.length kc2) (.bool E.off) (.int .i64 E.count)
  rw [← hV] at hf
  have HXV := Lib.hid (show BoxAt V w.heap.size (cellsD E (.slice la2 xs2.length lc2) (.slice wa2 ys2.length wc2) (.slice ka2 E.keep.length kc2)) from hf.1)
  have HGV := Lib.hid hf.2
  have HYV := Lib.hid (HY2.out.grownR hf.2 (by simp))
  clear hf hV x0 x1 x2 x3 x4 x5 x6 x7 x8 x9 x10 fx0 fx1 fx2 fx3 fx4 fx5 fx6 fx7 fx8 fx9 fx10 HX2 HY2 HX HY
  obtain ⟨x0, x1, x2, x3, x4, x5, x6, x7, x8, x9, x10⟩ := HXV.out.eleven
  obtain ⟨y0, y1, y2, y3, y4, y5, y6, y7, y8, y9, y10⟩ := HYV.out.eleven
  obtain ⟨fy0, fy1, fy2, fy3, fy4, fy5, fy6, fy7, fy8, fy9, fy10⟩ := HYV.out.elevenF
  go_wp2_with fail
  refine bodyPost_ret (v := .tuple #[refD E (.slice la2 xs2.length lc2) (.slice wa2 ys2.length wc2) (.slice ka2 E.keep.length kc2), .int .i64 7]) (by simp [results, Tryd.results23, go_sem, refD, y0, y1, y2, y3, y4, y5, y6, y7, y8, y9, y10]) rfl ?_
  refine GivesRC.fin H2.out (fun k hk => ?_) ?_ (fun k hk => ?_)
  · rcases hk with h | h
    · exact .inl h
    · have h1 := HGV.out.size; have h2 := HB.out.size; exact .inr ⟨by omega, by simp; omega⟩
  · have h1 : Below w.heap.size w V := (HB.out.trans (HB2.out.mono HB.out.size)).grown HGV.out (Nat.le_trans HB.out.size HB2.out.size) (by intro k hk; cases hk; exact Nat.le_refl _)
    repeat (first | refine Below.setCell ?_ (by first | exact Nat.le_refl _ | exact Nat.le_succ _) _ | exact h1)
  · have h1 : w.heap.size + 1 ≠ k := by rcases hk with h | h; (have := HG.out k h; omega); omega
    have h0 : some k ≠ some w.heap.size := by intro e; cases e; rcases hk with h | h; (have := HG.out _ h; omega); omega
    have h2 : k < w2.heap.size := by rcases hk with h | h; (have := HG.out k h; have := HB.out.size; have := HB2.out.size; omega); omega
    repeat (first | rw [heap_set_ne h1])
    exact HGV.out.block k h2 h0
set_option maxRecDepth 100000 in
set_option maxHeartbeats 1000000 in
theorem refFlush4_all {G : Nat → Prop} {w : World} {n : Nat} {d E1 E : Bk.Disk} {v : Value} (hr : RefAt G w v d) (ho : Bk.Ok n d) (hG : Held G w) (hoff : d.off = false) (hb : ¬ Bk.blows d) (hE1 : Bk.ticked d = E1) (hE : Bk.all E1 = E) :
    Calls Tryd.prog 23 #[v] w fun e w' => GivesRC G w E 0 e w' ∧ Below w.heap.size w w' := by
  have HR := Lib.hid hr
  obtain ⟨lv, wv, kv, xs, ys, rfl, h⟩ := hr
  obtain ⟨la, lc, wa, wc, ka, kc, rfl, rfl, rfl⟩ := h.shape
  have HG := Lib.hid hG
  have HO := Lib.hid ho
  have HBL := Lib.hid hb
  have HE := Lib.hid hE
  have HE1 := Lib.hid hE1
  have HO1 := Lib.hid (show Bk.Ok n E1 by rw [← hE1]; exact ho.ticked)
  have HV := Lib.hid (show refD d (.slice la xs.length lc) (.slice wa ys.length wc) (.slice ka d.keep.length kc) = .agg #[.int .i64 (d.blocks : Int), .int .i64 (d.size : Int), .slice la xs.length lc, .slice wa ys.length wc, .bool d.lit, .int .i64 d.after, .int .i64 d.torn, .int .i64 d.cut, .slice ka d.keep.length kc, .bool false, .int .i64 d.count] by unfold refD; rw [hoff])
  clear h hG ho hoff hb hE hE1
  rw [HV.out]
  go_enter Tryd.func23, Tryd.ntmps23
  go_upto_region 1 with fail
  refine wp_name fun W hW => ?_
  have HX := Lib.hid (show BoxAt W w.heap.size [.int .i64 (d.blocks : Int), .int .i64 (d.size : Int), .slice la xs.length lc, .slice wa ys.length wc, .bool d.lit, .int .i64 d.after, .int .i64 d.torn, .int .i64 d.cut, .slice ka d.keep.length kc, .bool false, .int .i64 d.count] by rw [hW]; exact (BoxAt.new w [_, _, _, _, _, _, _, _, _, _, _] _).alloc _)
  have HY := Lib.hid (show BoxAt W (w.heap.size + 1) zeroD by rw [hW]; exact BoxAt.newAt _ _ (by simp) [_, _, _, _, _, _, _, _, _, _, _] _)
  have HB := Lib.hid (show Below w.heap.size w W by rw [hW]; go_grown)
  clear hW
  have hGW : Held G W := fun k hk => Nat.lt_of_lt_of_le (HG.out k hk) HB.out.size
  have hRW : RefAt G W (refD d (.slice la xs.length lc) (.slice wa ys.length wc) (.slice ka d.keep.length kc)) d := HR.out.below HG.out HB.out
  rw [HV.out] at hRW
  have HRW := Lib.hid hRW
  have HGW := Lib.hid hGW
  have hW2 : w.heap.size + 1 < W.heap.size := HY.out.lt
  clear hRW hGW
  obtain ⟨x0, x1, x2, x3, x4, x5, x6, x7, x8, x9, x10⟩ := HX.out.eleven
  go_upto_region 3 with fail
  clear HV HR
  go_upto_region 4 with (go_at_call 61; (refine (refBurns4_tick' HE1.out HRW.out HGW.out HBL.out).mono ?_); (rintro e w2 ⟨⟨v2, rfl, hr2⟩, hb2⟩); (obtain ⟨lv2, wv2, kv2, xs2, ys2, rfl, h2⟩ := hr2); (obtain ⟨la2, lc2, wa2, wc2, ka2, kc2, rfl, rfl, rfl⟩ := h2.shape); (have H2 := Lib.hid h2); (have HB2 := Lib.hid hb2); (have HX2 := Lib.hid (HX.out.below hb2)); (have HY2 := Lib.hid (HY.out.below hb2)); (clear h2 hb2 x0 x1 x2 x3 x4 x5 x6 x7 x8 x9 x10); (obtain ⟨x0, x1, x2, x3, x4, x5, x6, x7, x8, x9, x10⟩ := HX2.out.eleven); (obtain ⟨fx0, fx1, fx2, fx3, fx4, fx5, fx6, fx7, fx8, fx9, fx10⟩ := HX2.out.elevenF); (unfold refD))
  refine wp_name fun V hV => ?_
  have hf := fill11 HX2.out (.int .i64 (E1.blocks : Int)) (.int .i64 (E1.size : Int)) (.slice la2 xs2.length lc2) (.slice wa2 ys2.length wc2) (.bool E1.lit) (.int .i64 E1.after) (.int .i64 E1.torn) (.int .i64 E1.cut) (.slice ka2 E1.keep.length kc2) (.bool E1.off) (.int .i64 E1.count)
  rw [← hV] at hf
  have HXV := Lib.hid (show BoxAt V w.heap.size (cellsD E1 (.slice la2 xs2.length lc2) (.slice wa2 ys2.length wc2) (.slice ka2 E1.keep.length kc2)) from hf.1)
  have HGV := Lib.hid hf.2
  have HYV := Lib.hid (HY2.out.grownR hf.2 (by simp))
  clear hf hV x0 x1 x2 x3 x4 x5 x6 x7 x8 x9 x10 fx0 fx1 fx2 fx3 fx4 fx5 fx6 fx7 fx8 fx9 fx10 HX2 HY2 HX HY
  obtain ⟨x0, x1, x2, x3, x4, x5, x6, x7, x8, x9, x10⟩ := HXV.out.eleven
  have hGm : ∀ k, More G W w2 k → k ≠ w.heap.size ∧ k ≠ w.heap.size + 1 ∧ k < w2.heap.size := fun k hk => by
    have h1 := HB.out.size; have h2 := HB2.out.size
    rcases hk with h | h
    · have := HG.out k h; omega
    · omega
  have hR1 : RefAt (More G W w2) V (refD E1 (.slice la2 xs2.length lc2) (.slice wa2 ys2.length wc2) (.slice ka2 E1.keep.length kc2)) E1 :=
    (H2.out.on fun k hk => HGV.out.block k (hGm k hk).2.2 (by have := (hGm k hk).1; simpa using this)).at
  have hH1 : Held (More G W w2) V := fun k hk => Nat.lt_of_lt_of_le (hGm k hk).2.2 HGV.out.size
  have HR1 := Lib.hid hR1
  have HH1 := Lib.hid hH1
  have HGM := Lib.hid hGm
  clear hR1 hH1 hGm
  go_upto_region 6 with fail
  go_wp2_with (go_at_call 62; (refine (refAll4' HE.out HR1.out HO1.out HH1.out).mono ?_); (rintro e w3 ⟨⟨v3, rfl, hr3⟩, hb3⟩); (obtain ⟨lv3, wv3, kv3, xs3, ys3, rfl, h3⟩ := hr3); (obtain ⟨la3, lc3, wa3, wc3, ka3, kc3, rfl, rfl, rfl⟩ := h3.shape); (have H3 := Lib.hid h3); (have HB3 := Lib.hid hb3); (have HY3 := Lib.hid (HYV.out.below hb3)); (clear h3 hb3 x0 x1 x2 x3 x4 x5 x6 x7 x8 x9 x10); (obtain ⟨y0, y1, y2, y3, y4, y5, y6, y7, y8, y9, y10⟩ := HY3.out.eleven); (obtain ⟨fy0, fy1, fy2, fy3, fy4, fy5, fy6, fy7, fy8, fy9, fy10⟩ := HY3.out.elevenF); (unfold refD))
  refine bodyPost_ret (v := .tuple #[refD E (.slice la3 xs3.length lc3) (.slice wa3 ys3.length wc3) (.slice ka3 E.keep.length kc3), .int .i64 0]) (by simp [results, Tryd.results23, go_sem, refD, y0, y1, y2, y3, y4, y5, y6, y7, y8, y9, y10]) rfl ?_
  have hs1 := HB.out.size
  have hs2 := HB2.out.size
  have hs3 := HGV.out.size
  have hs4 := HB3.out.size
  have hlt : ∀ k, More (More G W w2) V w3 k → (G k ∧ k < w.heap.size) ∨ (W.heap.size ≤ k ∧ k < w3.heap.size) := fun k hk => by
    rcases hk with (h | h) | h
    · exact .inl ⟨h, HG.out k h⟩
    · exact .inr (by omega)
    · exact .inr (by omega)
  refine GivesRC.fin H3.out (fun k hk => ?_) ?_ (fun k hk => ?_)
  · rcases hlt k hk with h | h
    · exact .inl h.1
    · exact .inr ⟨by omega, by simp; omega⟩
  · have h1 : Below w.heap.size w w3 := ((HB.out.trans (HB2.out.mono HB.out.size)).grown HGV.out (by omega) (by intro k hk; cases hk; exact Nat.le_refl _)).trans (HB3.out.mono (by omega))
    repeat (first | refine Below.setCell ?_ (by first | exact Nat.le_refl _ | exact Nat.le_succ _) _ | exact h1)
  · have h1 : w.heap.size + 1 ≠ k := by rcases hlt k hk with h | h <;> omega
    repeat (first | rw [heap_set_ne h1])
theorem refFlush4 {G : Nat → Prop} {w : World} {n : Nat} {d : Bk.Disk} {v : Value} (hr : RefAt G w v d) (ho : Bk.Ok n d) (hG : Held G w) :
    Calls Tryd.prog 23 #[v] w fun e w' => GivesRC G w (Bk.flush d).1 (Bk.flush d).2 e w' ∧ Below w.heap.size w w' := by
  unfold Bk.flush
  cases hoff : d.off with
  | true => rw [if_pos rfl]; exact refFlush4_off hr hG hoff
  | false =>
    rw [if_neg (by simp)]
    by_cases hb : Bk.blows d
    · rw [if_pos hb]; exact refFlush4_blow hr ho hG hoff hb rfl
    · rw [if_neg hb]; exact refFlush4_all hr ho hG hoff hb rfl rfl
end Go.Proofs.YtflbioiildndoaaDoor
