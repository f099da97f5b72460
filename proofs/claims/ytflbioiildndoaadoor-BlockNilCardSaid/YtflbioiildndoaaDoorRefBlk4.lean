/- the document's disks: all, burns, Flush, Put, Corrupt, New -/
import Derived.Test.YtflbioiildndoaaDoorRefBlk3
namespace Go.Proofs.YtflbioiildndoaaDoor
open Go.RowKit
set_option linter.unusedVariables false
set_option linter.unusedSimpArgs false

set_option maxRecDepth 100000 in
set_option maxHeartbeats 1000000 in
theorem refAll4 {G : Nat → Prop} {w : World} {n : Nat} {d : Bk.Disk} {v : Value} (hr : RefAt G w v d) (ho : Bk.Ok n d) (hG : Held G w) :
    Calls Tryd.prog 62 #[v] w fun e w' => GivesR G w (Bk.all d) e w' ∧ Below w.heap.size w w' := by
  obtain ⟨lv, wv, kv, xs, ys, rfl, h⟩ := hr
  obtain ⟨la, lc, wa0, wc0, ka, kc, rfl, ew, rfl⟩ := h.shape
  obtain ⟨wa, wc, rfl, hwl, hwm, hwait⟩ := h.waitRow
  unfold maxLen at hwm
  have H := Lib.hid h
  have HG := Lib.hid hG
  have HOK := Lib.hid ho
  have HW := Lib.hid hwait
  have hsz := ho.s
  have hbb := ho.b
  clear h hG ho hwait ew wa0 wc0
  unfold refD
  go_enter Tryd.func62, Tryd.ntmps62
  go_upto_region 1 with fail
  refine wp_name fun W hW => ?_
  have HX := Lib.hid (show BoxAt W w.heap.size (cellsD d (.slice la xs.length lc) (.slice wa d.waiting.length wc) (.slice ka d.keep.length kc)) by rw [hW]; exact (BoxAt.new w (cellsD _ _ _ _) _).alloc _)
  have HY := Lib.hid (show BoxAt W (w.heap.size + 1) [.int .i64 0, .int .i64 0, .slice none 0 0, .slice none 0 0, .bool false, .int .i64 0, .int .i64 0, .int .i64 0, .slice none 0 0, .bool false, .int .i64 0] by rw [hW]; exact BoxAt.newAt _ _ (by simp) [_, _, _, _, _, _, _, _, _, _, _] _)
  have HB := Lib.hid (show Below w.heap.size w W by rw [hW]; go_grown)
  clear hW
  obtain ⟨-, -, m2, m3, -⟩ := HX.out.eleven
  go_wp2_with fail
  go_loopw [3, 4] (fun l i wr => ∃ k : Nat, k ≤ d.waiting.length ∧ i = .int .i64 (k : Int) ∧ CrashR G W (Bk.allK d.waiting d.lasting k) l wr) (fun _ i _ => d.waiting.length - (intOf i).toNat)
  case atStart => exact ⟨0, Nat.zero_le _, rfl, ⟨xs, (H.out.lastR.below HB.out).mono fun k hk => .inl hk⟩, Below.refl _ _⟩
  case round =>
    obtain ⟨k, hk, rfl, hc⟩ := hrel
    have HC := Lib.hid hc
    have HBW := Lib.hid hc.2
    have HBR := Lib.hid (HB.out.trans (hc.2.mono HB.out.size))
    clear hc m2 m3
    obtain ⟨-, -, m2, m3, -⟩ := (HX.out.below HBW.out).eleven
    by_cases hlt : k < d.waiting.length
    · obtain ⟨z, hz⟩ := getElem?_some_of_lt hlt
      obtain ⟨wg, wo, y, rfl, hy, c0, c1, g1, g2⟩ := HW.out k z hz
      have hbr := HBR.out
      have c0' := (hbr.cell (World.block_lt_of_cell? w _ c0)).trans c0
      have c1' := (hbr.cell (World.block_lt_of_cell? w _ c1)).trans c1
      have HYB := Lib.hid (g1.below hbr)
      have HYG := Lib.hid g2
      have hlt1 : (k : Int) < (d.waiting.length : Int) := by omega
      have hk0 : (0 : Int) ≤ (k : Int) := by omega
      have hzb := HOK.out.wait k z hz
      have HZ := Lib.hid hz
      clear hz hy c0 c1 g1 g2 hbr
      go_upto_region 5 with fail
      obtain ⟨old, hold⟩ : ∃ old, (Bk.allK d.waiting d.lasting k)[z.1]? = some old := getElem?_some_of_lt (by
        have := (Bk.allK_row HOK.out.row HOK.out.wait k).1; omega)
      have holdl : old.length = d.size := (Bk.allK_row HOK.out.row HOK.out.wait k).2 _ _ hold
      have hb0 : (0 : Int) ≤ (z.1 : Int) := by omega
      obtain ⟨⟨xs', hl'⟩, -⟩ := HC.out
      obtain ⟨lg, lo, lc2, x, rfl, hl1, hl2, hzl, lcell, lby, lG⟩ := hl'.cell hold
      unfold maxLen at hl2
      have hb1 : (z.1 : Int) < (xs'.length : Int) := by omega
      have hxl : xs'.length ≤ 256 := by rw [hl'.len, (Bk.allK_row HOK.out.row HOK.out.wait k).1]; omega
      have HLR := Lib.hid hl'
      have HLB := Lib.hid lby
      have HOLD := Lib.hid hold
      have HOL := Lib.hid holdl
      clear hl' lby lG hold holdl
      have hzs := hzb.2
      have n3 := Near.cell (w := wr.drew) (row := none) m3 (by simp)
      have n4 := Near.cell (w := wr.drew) (row := none) c0' (by simp)
      have n5 := Near.cell (w := wr.drew) (row := none) c1' (by simp)
      refine wp_region_mix (fun w' => ∃ x : Near wr.drew none, w' = x.world) [] 15 (by kernel_rfl) rfl ?_
      refine mix_reads_lit [0, 1, 2, 3, 4, 5, 6, 7, 8, 9, 10, 11, 12] 2 (by kernel_rfl) (by kernel_rfl) (by kernel_rfl) (by kernel_rfl) rfl (NearC.of (World.grownBy.refl _ _)) ?_
      simp only [pick, List.filterMap_cons, List.filterMap_nil, List.getElem?_cons_succ, List.getElem?_cons_zero]
      repeat (first | go_big_quiet_step (fail) | quiet_step (fail))
      refine wpQuiet_nil ?_
      refine mix_deed_lit 13 1 (by kernel_rfl) (by kernel_rfl) rfl (fun K hK => ?_)
      simp only [comesUp, List.getElem?_cons_succ, List.getElem?_cons_zero]
      refine if_mk rfl ?_
      go_simp
      refine (refWith_any _ xs' z.1 y _ (HLR.out.row.below (Below.refl _ _).drew) hzl (by omega)).mono ?_
      rintro e w3 ⟨⟨v3, rfl, ho3⟩, hb3⟩
      refine hK _ _ (fun _ _ => NearC.of (grown_of_below hb3 (Nat.le_refl _) _)) ?_
      clear hK K
      refine mix_flat_lit [14] 0 (by kernel_rfl) (by kernel_rfl) (by kernel_rfl) (by kernel_rfl) rfl ?_
      simp only [pick, List.filterMap_cons, List.filterMap_nil, List.getElem?_cons_succ, List.getElem?_cons_zero]
      repeat (first | go_big_quiet_step (fail) | quiet_step (fail))
      refine wpQuiet_nil ?_
      refine mix_done_lit (by kernel_rfl) ?_
      have hb23 : Below wr.heap.size wr w3 := (Below.refl _ _).drew.trans (hb3.mono (Nat.le_refl _))
      have hnew : CrashR G W (Bk.allK d.waiting d.lasting (k + 1)) v3 w3 := by
        rw [Bk.allK, HZ.out]
        simp only
        exact ⟨⟨_, HLR.out.set hb23 (More.grow hb23.size) (x := y) (ho3.at eSl_ok) (more_own ho3 (by show W.heap.size ≤ wr.heap.size; exact HBW.out.size)) (HYB.out.below hb23) (HYG.out.mono fun k hk => .inl hk)⟩, HBW.out.trans (hb23.mono HBW.out.size)⟩
      have HN := Lib.hid hnew
      clear hnew hb23 ho3 hb3 n3 n4 n5 m2 m3 c0' c1' lcell
      go_wp2_with fail
      go_roundw
      case rel => exact ⟨k + 1, by omega, by go_num, HN.out⟩
      case measure => simp [intOf]; omega
    · obtain rfl : k = d.waiting.length := by omega
      obtain ⟨⟨xs', hl'⟩, -⟩ := HC.out
      obtain ⟨la', lc', rfl, -, -, -⟩ := id hl'.row
      have HLR := Lib.hid hl'
      clear hl' hlt
      have hbx := HX.out.below HBW.out
      have hby := HY.out.below HBW.out
      clear m2 m3
      obtain ⟨x0, x1, x2, x3, x4, x5, x6, x7, x8, x9, x10⟩ := hbx.eleven
      obtain ⟨fx0, fx1, fx2, fx3, fx4, fx5, fx6, fx7, fx8, fx9, fx10⟩ := hbx.elevenF
      obtain ⟨y0, y1, y2, y3, y4, y5, y6, y7, y8, y9, y10⟩ := hby.eleven
      obtain ⟨fy0, fy1, fy2, fy3, fy4, fy5, fy6, fy7, fy8, fy9, fy10⟩ := hby.elevenF
      have hplt := hby.lt
      clear hbx hby
      go_wp2_with fail
      refine bodyPost_ret (v := refD (Bk.all d) (.slice la' xs'.length lc') (.slice none 0 0) (.slice ka d.keep.length kc)) (by simp [results, Tryd.results62, go_sem, refD, Bk.all, y0, y1, y2, y3, y4, y5, y6, y7, y8, y9, y10]) rfl ?_
      have hd : DiskR (More G W wr) wr (Bk.all d) (.slice la' xs'.length lc') (.slice none 0 0) (.slice ka d.keep.length kc) xs' [] :=
        (((H.out.below HG.out HB.out).below (fun k hk => Nat.lt_of_lt_of_le (HG.out k hk) HB.out.size) HBW.out).mono (fun k hk => (.inl hk : More G W wr k))).newLast HLR.out.row HLR.out.inG HLR.out.len HLR.out.each rfl rfl
      have hW2 : w.heap.size + 1 < W.heap.size := HY.out.lt
      refine GivesR.late hd HG.out HB.out HBW.out ?_ fun k hk => ?_
      · repeat (first | refine Below.setCell ?_ (by first | exact Nat.le_refl _ | exact Nat.le_succ _) _ | exact Below.refl _ _)
      · have h0 : w.heap.size ≠ k := by rcases hk with h | h; (have := HG.out k h; omega); omega
        have h1 : w.heap.size + 1 ≠ k := by rcases hk with h | h; (have := HG.out k h; omega); omega
        repeat (first | rw [heap_set_ne h1] | rw [heap_set_ne h0])
theorem GivesRC.late {G : Nat → Prop} {w W wr w' : World} {d : Bk.Disk} {k : Nat} {lv wv kv : Value} {xs : List Sl3} {ys : List (Int × Sl3)} (h : DiskR (More G W wr) wr d lv wv kv xs ys) (hG : Held G w) (hb : Below w.heap.size w W) (hb1 : Below W.heap.size W wr) (hb2 : Below w.heap.size wr w') (hsafe : ∀ k, More G W wr k → w'.heap[k]? = wr.heap[k]?) : GivesRC G w d k (.returned (.tuple #[refD d lv wv kv, .int .i64 (k : Int)])) w' ∧ Below w.heap.size w w' :=
  ⟨⟨_, rfl, _, _, _, _, _, rfl, (h.on hsafe).mono (fun k hk => hk.imp id fun ⟨x, y⟩ => ⟨Nat.le_trans hb.size x, Nat.lt_of_lt_of_le y hb2.size⟩)⟩, (hb.trans (hb1.mono hb.size)).trans hb2⟩
set_option maxRecDepth 100000 in
set_option maxHeartbeats 1000000 in
theorem refBurns4_tick {G : Nat → Prop} {w : World} {d : Bk.Disk} {v : Value} (hr : RefAt G w v d) (hG : Held G w) (hb : ¬ Bk.blows d) :
    Calls Tryd.prog 61 #[v] w fun e w' => GivesRC G w (Bk.ticked d) 0 e w' ∧ Below w.heap.size w w' := by
  obtain ⟨lv, wv, kv, xs, ys, rfl, h⟩ := hr
  obtain ⟨la, lc, wa, wc, ka, kc, rfl, rfl, rfl⟩ := h.shape
  have H := Lib.hid h
  have HG := Lib.hid hG
  have HB := Lib.hid hb
  clear h hG hb
  unfold refD
  cases hl : d.lit with
  | false =>
    have HL := Lib.hid hl
    clear hl
    go_enter Tryd.func61, Tryd.ntmps61
    go_wp2_with fail
    simp only [wrap64_is]
    refine bodyPost_ret (v := .tuple #[refD (Bk.ticked d) (.slice la xs.length lc) (.slice wa ys.length wc) (.slice ka d.keep.length kc), .int .i64 0]) (by simp [results, Tryd.results61, go_sem, refD, Bk.ticked, HL.out]) rfl ?_
    exact GivesRC.of (H.out.as (d' := Bk.ticked d) rfl rfl rfl) HG.out (by go_grown)
  | true =>
    have hne : (d.after == 0) = false := by have := HB.out; unfold Bk.blows at this; simp [hl] at this; simpa using this
    have HL := Lib.hid hl
    clear hl
    go_enter Tryd.func61, Tryd.ntmps61
    go_wp2_with fail
    simp only [wrap64_is]
    refine bodyPost_ret (v := .tuple #[refD (Bk.ticked d) (.slice la xs.length lc) (.slice wa ys.length wc) (.slice ka d.keep.length kc), .int .i64 0]) (by simp [results, Tryd.results61, go_sem, refD, Bk.ticked, HL.out]) rfl ?_
    exact GivesRC.of (H.out.as (d' := Bk.ticked d) rfl rfl rfl) HG.out (by go_grown)
set_option maxRecDepth 100000 in
set_option maxHeartbeats 1000000 in
theorem refBurns4_blow {G : Nat → Prop} {w : World} {n : Nat} {d : Bk.Disk} {v : Value} (hr : RefAt G w v d) (ho : Bk.Ok n d) (hG : Held G w) (hb : Bk.blows d) :
    Calls Tryd.prog 61 #[v] w fun e w' => GivesRC G w (Bk.blown d) 7 e w' ∧ Below w.heap.size w w' := by
  have HR := Lib.hid hr
  obtain ⟨lv, wv, kv, xs, ys, rfl, h⟩ := hr
  obtain ⟨la, lc, wa, wc, ka, kc, rfl, rfl, rfl⟩ := h.shape
  obtain ⟨hlit, haft⟩ := hb
  have H := Lib.hid h
  have HG := Lib.hid hG
  have HO := Lib.hid ho
  have HV := Lib.hid (show refD d (.slice la xs.length lc) (.slice wa ys.length wc) (.slice ka d.keep.length kc) = .agg #[.int .i64 (d.blocks : Int), .int .i64 (d.size : Int), .slice la xs.length lc, .slice wa ys.length wc, .bool true, .int .i64 0, .int .i64 d.torn, .int .i64 d.cut, .slice ka d.keep.length kc, .bool d.off, .int .i64 d.count] by unfold refD; rw [hlit, haft])
  clear h hG ho
  rw [HV.out]
  clear hlit haft
  go_enter Tryd.func61, Tryd.ntmps61
  go_upto_region 2 with fail
  refine wp_name fun W hW => ?_
  have HX := Lib.hid (show BoxAt W w.heap.size [.int .i64 (d.blocks : Int), .int .i64 (d.size : Int), .slice la xs.length lc, .slice wa ys.length wc, .bool true, .int .i64 0, .int .i64 d.torn, .int .i64 d.cut, .slice ka d.keep.length kc, .bool d.off, .int .i64 d.count] by rw [hW]; exact (BoxAt.new w [_, _, _, _, _, _, _, _, _, _, _] _).alloc _)
  have HY := Lib.hid (show BoxAt W (w.heap.size + 1) [.int .i64 0, .int .i64 0, .slice none 0 0, .slice none 0 0, .bool false, .int .i64 0, .int .i64 0, .int .i64 0, .slice none 0 0, .bool false, .int .i64 0] by rw [hW]; exact BoxAt.newAt _ _ (by simp) [_, _, _, _, _, _, _, _, _, _, _] _)
  have HB := Lib.hid (show Below w.heap.size w W by rw [hW]; go_grown)
  clear hW
  obtain ⟨x0, x1, x2, x3, x4, x5, x6, x7, x8, x9, x10⟩ := HX.out.eleven
  have hGW : Held G W := fun k hk => Nat.lt_of_lt_of_le (HG.out k hk) HB.out.size
  have hRW : RefAt G W (refD d (.slice la xs.length lc) (.slice wa ys.length wc) (.slice ka d.keep.length kc)) d := HR.out.below HG.out HB.out
  rw [HV.out] at hRW
  have HRW := Lib.hid hRW
  have HGW := Lib.hid hGW
  have HKW := Lib.hid (H.out.keep.below HB.out)
  clear hRW hGW
  go_upto_region 3 with (go_at_call 79; (refine (refCrash4 HRW.out HO.out HGW.out d.torn d.cut _ d.keep HKW.out).mono ?_); (rintro e w2 ⟨⟨v2, rfl, hr2⟩, hb2⟩); (obtain ⟨lv2, wv2, kv2, xs2, ys2, rfl, h2⟩ := hr2); (obtain ⟨la2, lc2, wa2, wc2, ka2, kc2, rfl, rfl, rfl⟩ := h2.shape); (have H2 := Lib.hid h2); (have HB2 := Lib.hid hb2); (clear h2 hb2); (unfold refD))
  go_upto_region 3 with fail
  refine wp_name fun V hV => ?_
  obtain ⟨b4, hb4⟩ : ∃ b4, w2.heap.size = b4 := ⟨_, rfl⟩
  have HZ := Lib.hid (show BoxAt V b4 (cellsD (Bk.crash d d.keep d.torn d.cut) (.slice la2 xs2.length lc2) (.slice wa2 ys2.length wc2) (.slice ka2 (Bk.crash d d.keep d.torn d.cut).keep.length kc2)) by rw [hV]; exact BoxAt.newAt _ _ hb4 [_, _, _, _, _, _, _, _, _, _, _] _)
  have HYV := Lib.hid (show BoxAt V (w.heap.size + 1) _ by rw [hV]; exact (HY.out.below HB2.out).alloc _)
  have HBV := Lib.hid (show Below w2.heap.size w2 V by rw [hV]; exact (Below.refl _ _).alloc (Nat.le_refl _) _)
  have hlt4 : w.heap.size + 1 < b4 := by rw [← hb4]; exact Nat.lt_of_lt_of_le HY.out.lt HB2.out.size
  have HB4 := Lib.hid hb4
  rw [hb4]
  clear hV hb4 x0 x1 x2 x3 x4 x5 x6 x7 x8 x9 x10
  obtain ⟨z0, z1, z2, z3, z4, z5, z6, z7, z8, z9, z10⟩ := HZ.out.eleven
  obtain ⟨fz0, fz1, fz2, fz3, fz4, fz5, fz6, fz7, fz8, fz9, fz10⟩ := HZ.out.elevenF
  go_upto_region 5 with fail
  refine wp_name fun U hU => ?_
  have h6 := (((((HZ.out.put 4 (.bool false)).put 5 (.int .i64 0)).put 6 (.int .i64 0)).put 7 (.int .i64 0)).put 8 (.slice none 0 0)).put 9 (.bool true)
  have e6 : ((((((cellsD (Bk.crash d d.keep d.torn d.cut) (.slice la2 xs2.length lc2) (.slice wa2 ys2.length wc2) (.slice ka2 (Bk.crash d d.keep d.torn d.cut).keep.length kc2)).set 4 (.bool false)).set 5 (.int .i64 0)).set 6 (.int .i64 0)).set 7 (.int .i64 0)).set 8 (.slice none 0 0)).set 9 (.bool true) = cellsD (Bk.blown d) (.slice la2 xs2.length lc2) (.slice wa2 ys2.length wc2) (.slice none 0 0) := by
    simp [cellsD, Bk.blown]
  rw [e6] at h6
  have HZU := Lib.hid (show BoxAt U b4 (cellsD (Bk.blown d) (.slice la2 xs2.length lc2) (.slice wa2 ys2.length wc2) (.slice none 0 0)) by rw [hU]; exact h6)
  have hgu : V.grownBy U (some b4) := by
    rw [hU]
    repeat (first | refine grownBy_set ?_ _ _ | exact World.grownBy.refl _ _)
  have HGU := Lib.hid hgu
  have HYU := Lib.hid (HYV.out.grownR hgu (by simp; omega))
  clear hU h6 e6 hgu z0 z1 z2 z3 z4 z5 z6 z7 z8 z9 z10 fz0 fz1 fz2 fz3 fz4 fz5 fz6 fz7 fz8 fz9 fz10
  obtain ⟨z0, z1, z2, z3, z4, z5, z6, z7, z8, z9, z10⟩ := HZU.out.eleven
  obtain ⟨y0, y1, y2, y3, y4, y5, y6, y7, y8, y9, y10⟩ := HYU.out.eleven
  obtain ⟨fy0, fy1, fy2, fy3, fy4, fy5, fy6, fy7, fy8, fy9, fy10⟩ := HYU.out.elevenF
  go_wp2_with fail
  refine bodyPost_ret (v := .tuple #[refD (Bk.blown d) (.slice la2 xs2.length lc2) (.slice wa2 ys2.length wc2) (.slice none 0 0), .int .i64 7]) (by simp [results, Tryd.results61, go_sem, refD, y0, y1, y2, y3, y4, y5, y6, y7, y8, y9, y10]) rfl ?_
  have hGm : ∀ k, More G W w2 k → k ≠ b4 ∧ k < w2.heap.size := fun k hk => by
    have := HB4.out
    rcases hk with h | h
    · have h1 := HG.out k h
      have h2 := HB2.out.size
      have h3 := HB.out.size
      omega
    · omega
  have hU2 : ∀ k, More G W w2 k → U.heap[k]? = w2.heap[k]? := fun k hk => by
    obtain ⟨h1, h2⟩ := hGm k hk
    rw [HGU.out.block k (Nat.lt_of_lt_of_le h2 HBV.out.size) (by simpa using h1), HBV.out.block k h2]
  have hDU : DiskR (More G W U) U (Bk.blown d) (.slice la2 xs2.length lc2) (.slice wa2 ys2.length wc2) (.slice none 0 0) xs2 ys2 :=
    ((H2.out.on hU2).mono (More.grow (Nat.le_trans HBV.out.size HGU.out.size))).noKeep (d' := Bk.blown d) rfl rfl rfl
  have hBU : Below W.heap.size W U := by
    refine (HB2.out.trans (HBV.out.mono HB2.out.size)).grown HGU.out (Nat.le_trans HB2.out.size HBV.out.size) (fun k hk => ?_)
    cases hk
    have := HB4.out
    have := HB2.out.size
    omega
  refine GivesRC.late hDU HG.out HB.out hBU ?_ fun k hk => ?_
  · repeat (first | refine Below.setCell ?_ (Nat.le_succ _) _ | exact Below.refl _ _)
  · have h1 : w.heap.size + 1 ≠ k := by
      have h3 := HY.out.lt
      rcases hk with h | h
      · have := HG.out k h; omega
      · omega
    repeat (first | rw [heap_set_ne h1])
end Go.Proofs.YtflbioiildndoaaDoor
