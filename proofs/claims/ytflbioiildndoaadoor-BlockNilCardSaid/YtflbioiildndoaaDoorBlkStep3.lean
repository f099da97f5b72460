/- the statements of disks: Crash, On; any step (printed by wip/tools/gen_step04c.py) -/
import Derived.Test.YtflbioiildndoaaDoorBlkStep2
namespace Go.Proofs.YtflbioiildndoaaDoor
open Go.RowKit
set_option linter.unusedVariables false
set_option linter.unusedSimpArgs false

set_option maxRecDepth 100000 in
set_option maxHeartbeats 1000000 in
theorem step04_crash {F G : Nat → Prop} {w : World} {p n : Nat} {d E : Bk.Disk} {k : Nat} {v : Value} (hd : DiskAt F w p d) (hr : RefAt G w v d) (hF : Held F w) (hG : Held G w) (hGF : ∀ k, G k → ¬ F k) (ho : Bk.Ok n d) (hn : n ≤ 999) (A : Nat → Addr) (hsF : ∀ w1, Beside F w w1 → Sents w1 A) (a : BAct) (hkp : RowAt eBool w (.slice a.ka a.keep.length a.kc) a.keep) (hkG : a.keep = [] ∨ InG G (.slice a.ka a.keep.length a.kc)) (hkl : a.keep.length ≤ 140737488355328) (hk : a.kind = 2) (hE : Bk.crash d a.keep a.torn a.cut = E) :
    Calls Tryd.prog 60 #[.pointer (some ⟨p, 0, none⟩), v, .agg a.cells.toArray] w (Stepped F G w p E) := by
  obtain ⟨kind, ai, fill, short, ka, keep, kc, torn, cut, mask⟩ := a
  simp only [BAct.cells] at *
  obtain ⟨lv, wv, kv, xs, ys, rfl, h⟩ := hr
  obtain ⟨la, lc, wa, wc, kaa, kcc, rfl, rfl, rfl⟩ := h.shape
  have H := Lib.hid h
  have HD := Lib.hid hd
  have HF := Lib.hid hF
  have HG := Lib.hid hG
  have HGF := Lib.hid hGF
  have HO := Lib.hid ho
  have HS := Lib.hid hsF
  have HKP := Lib.hid hkp
  have HKG := Lib.hid hkG
  have HKL := Lib.hid hkl
  have HE := Lib.hid hE
  have HN := Lib.hid hn
  subst hk
  clear h hd hF hG hGF ho hsF hkp hkG hkl hE hn
  unfold refD
  go_enter Tryd.func60, Tryd.ntmps60
  go_upto_region 1 with fail
  refine wp_name fun W hW => ?_
  have HX := Lib.hid (show BoxAt W w.heap.size [.int .i64 (d.blocks : Int), .int .i64 (d.size : Int), .slice la xs.length lc, .slice wa ys.length wc, .bool d.lit, .int .i64 d.after, .int .i64 d.torn, .int .i64 d.cut, .slice kaa d.keep.length kcc, .bool d.off, .int .i64 d.count] by rw [hW]; exact ((BoxAt.new w [_, _, _, _, _, _, _, _, _, _, _] _).alloc _).alloc _)
  have HY := Lib.hid (show BoxAt W (w.heap.size + 1) [.int .i64 2, .int .i64 ai, .int .u8 (fill.toNat : Int), .bool short, .slice ka keep.length kc, .int .i64 torn, .int .i64 cut, .int .u32 (mask.toNat : Int)] by rw [hW]; exact (BoxAt.newAt _ _ (by simp) [_, _, _, _, _, _, _, _] _).alloc _)
  have HZ := Lib.hid (show BoxAt W (w.heap.size + 1 + 1) zeroD by rw [hW]; exact BoxAt.newAt _ _ (by simp) [_, _, _, _, _, _, _, _, _, _, _] _)
  have HB := Lib.hid (show Below w.heap.size w W by rw [hW]; go_grown)
  have hW3 : w.heap.size + 1 + 1 < W.heap.size := HZ.out.lt
  clear hW
  have HDW := Lib.hid (HD.out.below HF.out HB.out)
  have HRW := Lib.hid (show RefAt G W (.agg #[.int .i64 (d.blocks : Int), .int .i64 (d.size : Int), .slice la xs.length lc, .slice wa ys.length wc, .bool d.lit, .int .i64 d.after, .int .i64 d.torn, .int .i64 d.cut, .slice kaa d.keep.length kcc, .bool d.off, .int .i64 d.count]) d from (H.out.at).below HG.out HB.out)
  have HHW := Lib.hid (HG.out.more HB.out.size)
  have HFW := Lib.hid (HF.out.more HB.out.size)
  obtain ⟨x0, x1, x2, x3, x4, x5, x6, x7, x8, x9, x10⟩ := HX.out.eleven
  obtain ⟨m0, m1, m2, m3, m4, m5, m6, m7⟩ := HY.out.eight
  go_upto_region 17 with fail
  have hFlt : ∀ q, F q → q < w.heap.size := fun q hq => HF.out q hq
  have hFd : ∀ q, w.heap.size ≤ q → ¬ F q := fun q hq h => by have := hFlt q h; omega
  have HFL := Lib.hid hFlt
  clear hFlt
  have q0 := Far.dcell (w := W) (F := F) x0 (hFd w.heap.size (Nat.le_refl _))
  have q1 := Far.dcell (w := W) (F := F) x1 (hFd w.heap.size (Nat.le_refl _))
  have q2 := Far.dcell (w := W) (F := F) x2 (hFd w.heap.size (Nat.le_refl _))
  have q3 := Far.dcell (w := W) (F := F) x3 (hFd w.heap.size (Nat.le_refl _))
  have q4 := Far.dcell (w := W) (F := F) x4 (hFd w.heap.size (Nat.le_refl _))
  have q5 := Far.dcell (w := W) (F := F) x5 (hFd w.heap.size (Nat.le_refl _))
  have q6 := Far.dcell (w := W) (F := F) x6 (hFd w.heap.size (Nat.le_refl _))
  have q7 := Far.dcell (w := W) (F := F) x7 (hFd w.heap.size (Nat.le_refl _))
  have q8 := Far.dcell (w := W) (F := F) x8 (hFd w.heap.size (Nat.le_refl _))
  have q9 := Far.dcell (w := W) (F := F) x9 (hFd w.heap.size (Nat.le_refl _))
  have q10 := Far.dcell (w := W) (F := F) x10 (hFd w.heap.size (Nat.le_refl _))
  have p0 := Far.dcell (w := W) (F := F) m0 (hFd (w.heap.size + 1) (by omega))
  have p1 := Far.dcell (w := W) (F := F) m1 (hFd (w.heap.size + 1) (by omega))
  have p2 := Far.dcell (w := W) (F := F) m2 (hFd (w.heap.size + 1) (by omega))
  have p3 := Far.dcell (w := W) (F := F) m3 (hFd (w.heap.size + 1) (by omega))
  have p4 := Far.dcell (w := W) (F := F) m4 (hFd (w.heap.size + 1) (by omega))
  have p5 := Far.dcell (w := W) (F := F) m5 (hFd (w.heap.size + 1) (by omega))
  have p6 := Far.dcell (w := W) (F := F) m6 (hFd (w.heap.size + 1) (by omega))
  have p7 := Far.dcell (w := W) (F := F) m7 (hFd (w.heap.size + 1) (by omega))
  refine wp_region_mix (fun w' => ∃ x : Far W.drew F, w' = x.world) [16, 17] 19 (by kernel_rfl) rfl ?_
  refine mix_reads_lit [0, 1, 2, 3, 4, 5, 6, 8, 9, 10, 11, 12, 13, 14] 5 (by kernel_rfl) (by kernel_rfl) (by kernel_rfl) (by kernel_rfl) rfl (FarC.of (Beside.refl _ _)) ?_
  simp only [pick, List.filterMap_cons, List.filterMap_nil, List.getElem?_cons_succ, List.getElem?_cons_zero]
  repeat (first | go_big_quiet_step (fail) | quiet_step (fail))
  refine wpQuiet_nil ?_
  refine mix_deed_lit 7 4 (by kernel_rfl) (by kernel_rfl) rfl (fun K hK => ?_)
  simp only [comesUp, List.getElem?_cons_succ, List.getElem?_cons_zero]
  refine if_mk rfl ?_
  go_simp
  refine (refCrash4_to HRW.out.drew HO.out (fun q hq => HHW.out q hq) torn cut _ keep ((HKP.out.below HB.out).below (Below.refl _ _).drew) HE.out).mono ?_
  rintro e w2 ⟨⟨v2, rfl, hr2⟩, hb2⟩
  obtain ⟨lv2, wv2, kv2, xs2, ys2, rfl, h2⟩ := hr2
  obtain ⟨la2, lc2, wa2, wc2, ka2, kc2, rfl, rfl, rfl⟩ := h2.shape
  have H2 := Lib.hid (show DiskR (More G W w2) w2 E (.slice la2 xs2.length lc2) (.slice wa2 ys2.length wc2) (.slice ka2 E.keep.length kc2) xs2 ys2 from h2)
  have HB2 := Lib.hid (show Below W.heap.size W w2 from ⟨hb2.os, hb2.tape, hb2.output, hb2.size, hb2.block⟩)
  refine hK _ _ (fun _ _ => FarC.of (Beside.of_below hb2)) ?_
  clear hK K h2 hb2
  have HD2 := Lib.hid (HDW.out.below HFW.out HB2.out)
  have HF2 := Lib.hid (HFW.out.more HB2.out.size)
  have HBW2 := Lib.hid (HB.out.trans (HB2.out.mono HB.out.size))
  unfold refD
  refine mix_deed_lit 15 3 (by kernel_rfl) (by kernel_rfl) rfl (fun K hK => ?_)
  simp only [comesUp, List.getElem?_cons_succ, List.getElem?_cons_zero]
  refine if_mk rfl ?_
  go_simp
  refine (crash_to HD2.out HO.out HF2.out _ keep (HKP.out.below HBW2.out) (HKG.out.imp id fun h q hq => HGF.out q (h q hq)) torn cut HE.out A).mono ?_
  rintro e w4 h4
  obtain ⟨F4, rfl, hd4, hb4, hg4⟩ := h4.ok
  refine hK _ _ (fun _ _ => FarC.of ?_) ?_
  · have hx : Beside F W w4 := (Beside.of_below HB2.out).same hb4
    exact ⟨hx.os, hx.tape, hx.output, hx.size, hx.block⟩
  clear hK K
  have hg4' : ∀ q, F4 q → (F q ∨ w2.heap.size ≤ q) ∧ q < w4.heap.size := fun q hq => hg4 q hq
  have hb0 : Beside F w w4 := (Beside.of_below HBW2.out).same hb4
  have HZ4 := Lib.hid ((HZ.out.below HB2.out).beside hb4 (hFd _ (by omega)))
  have HDR := Lib.hid hd4
  have HBR := Lib.hid hb0
  have HG4R := Lib.hid hg4'
  have HB4 := Lib.hid hb4
  clear h4 hd4 hb4 hg4 hg4' hb0
  obtain ⟨fz0, fz1, fz2, fz3, fz4, fz5, fz6, fz7, fz8, fz9, fz10⟩ := HZ4.out.elevenF
  obtain ⟨z0, z1, z2, z3, z4, z5, z6, z7, z8, z9, z10⟩ := HZ4.out.eleven
  refine mix_two_lit 16 17 2 (by kernel_rfl) (by kernel_rfl) rfl (fun K hK => ?_) (fun K hK => ?_)
  · simp only [comesUp, List.getElem?_cons_succ, List.getElem?_cons_zero]
    refine if_mk rfl ?_
    go_simp
    refine hK _ _ (fun h => by simp [keeps] at h) ?_
    clear hK K
    refine mix_deed_lit 17 1 (by kernel_rfl) (by kernel_rfl) rfl (fun K hK => ?_)
    simp only [comesUp, List.getElem?_cons_succ, List.getElem?_cons_zero]
    refine if_mk rfl ?_
    go_simp
    refine hK _ _ (fun h => by simp [keeps] at h) ?_
    clear hK K
    refine mix_flat_lit [18] 0 (by kernel_rfl) (by kernel_rfl) (by kernel_rfl) (by kernel_rfl) rfl ?_
    simp only [pick, List.filterMap_cons, List.filterMap_nil, List.getElem?_cons_succ, List.getElem?_cons_zero]
    repeat (first | go_big_quiet_step (fail) | quiet_step (fail))
    refine wpQuiet_nil ?_
    refine mix_done_lit (by kernel_rfl) ?_
    refine q_name fun U hU => ?_
    have hfv : BoxAt U (w.heap.size + 1 + 1) [.int .i64 (E.blocks : Int), .int .i64 (E.size : Int), .slice la2 xs2.length lc2, .slice wa2 ys2.length wc2, .bool E.lit, .int .i64 E.after, .int .i64 E.torn, .int .i64 E.cut, .slice ka2 E.keep.length kc2, .bool E.off, .int .i64 E.count] ∧ w4.grownBy U (some (w.heap.size + 1 + 1)) := by
      rw [hU]
      exact fill11 HZ4.out (.int .i64 (E.blocks : Int)) (.int .i64 (E.size : Int)) (.slice la2 xs2.length lc2) (.slice wa2 ys2.length wc2) (.bool E.lit) (.int .i64 E.after) (.int .i64 E.torn) (.int .i64 E.cut) (.slice ka2 E.keep.length kc2) (.bool E.off) (.int .i64 E.count)
    have HZU := Lib.hid hfv.1
    have HGU := Lib.hid hfv.2
    clear hU hfv x0 x1 x2 x3 x4 x5 x6 x7 x8 x9 x10 q0 q1 q2 q3 q4 q5 q6 q7 q8 q9 q10 m0 m1 m2 m3 m4 m5 m6 m7 p0 p1 p2 p3 p4 p5 p6 p7 fz0 fz1 fz2 fz3 fz4 fz5 fz6 fz7 fz8 fz9 fz10 z0 z1 z2 z3 z4 z5 z6 z7 z8 z9 z10 hFd
    obtain ⟨z0, z1, z2, z3, z4, z5, z6, z7, z8, z9, z10⟩ := HZU.out.eleven
    go_wp2_with fail
    refine bodyPost_ret (v := .tuple #[refD E (.slice la2 xs2.length lc2) (.slice wa2 ys2.length wc2) (.slice ka2 E.keep.length kc2), .bool true]) (by simp [results, Tryd.results60, go_sem, refD, z0, z1, z2, z3, z4, z5, z6, z7, z8, z9, z10]) rfl ?_
    have h2r : DiskR (More G W w2) w4 E (.slice la2 xs2.length lc2) (.slice wa2 ys2.length wc2) (.slice ka2 E.keep.length kc2) xs2 ys2 := H2.out.on fun q hq => by
      have hql : q < w2.heap.size ∧ ¬ F q := by
        have h0 := HB.out.size
        have h1 := HB2.out.size
        rcases hq with h | h
        · have := HG.out q h; exact ⟨by omega, HGF.out q h⟩
        · exact ⟨h.2, fun hf => by have := HFL.out q hf; omega⟩
      rw [HB4.out.block q hql.1 hql.2]
    exact Stepped.fin HDR.out h2r HF.out HG.out HGF.out HG4R.out HBR.out ⟨by omega, by omega⟩ HB2.out.size (Nat.le_refl _) HB4.out.size HGU.out
  · simp only [comesUp, List.getElem?_cons_succ, List.getElem?_cons_zero]
    refine if_mk rfl ?_
    go_simp
    refine hK _ _ (fun h => by simp [keeps] at h) ?_
    clear hK K
    refine mix_deed_lit 16 1 (by kernel_rfl) (by kernel_rfl) rfl (fun K hK => ?_)
    simp only [comesUp, List.getElem?_cons_succ, List.getElem?_cons_zero]
    refine if_mk rfl ?_
    go_simp
    refine hK _ _ (fun h => by simp [keeps] at h) ?_
    clear hK K
    refine mix_flat_lit [18] 0 (by kernel_rfl) (by kernel_rfl) (by kernel_rfl) (by kernel_rfl) rfl ?_
    simp only [pick, List.filterMap_cons, List.filterMap_nil, List.getElem?_cons_succ, List.getElem?_cons_zero]
    repeat (first | go_big_quiet_step (fail) | quiet_step (fail))
    refine wpQuiet_nil ?_
    refine mix_done_lit (by kernel_rfl) ?_
    refine q_name fun U hU => ?_
    have hfv : BoxAt U (w.heap.size + 1 + 1) [.int .i64 (E.blocks : Int), .int .i64 (E.size : Int), .slice la2 xs2.length lc2, .slice wa2 ys2.length wc2, .bool E.lit, .int .i64 E.after, .int .i64 E.torn, .int .i64 E.cut, .slice ka2 E.keep.length kc2, .bool E.off, .int .i64 E.count] ∧ w4.grownBy U (some (w.heap.size + 1 + 1)) := by
      rw [hU]
      exact fill11 HZ4.out (.int .i64 (E.blocks : Int)) (.int .i64 (E.size : Int)) (.slice la2 xs2.length lc2) (.slice wa2 ys2.length wc2) (.bool E.lit) (.int .i64 E.after) (.int .i64 E.torn) (.int .i64 E.cut) (.slice ka2 E.keep.length kc2) (.bool E.off) (.int .i64 E.count)
    have HZU := Lib.hid hfv.1
    have HGU := Lib.hid hfv.2
    clear hU hfv x0 x1 x2 x3 x4 x5 x6 x7 x8 x9 x10 q0 q1 q2 q3 q4 q5 q6 q7 q8 q9 q10 m0 m1 m2 m3 m4 m5 m6 m7 p0 p1 p2 p3 p4 p5 p6 p7 fz0 fz1 fz2 fz3 fz4 fz5 fz6 fz7 fz8 fz9 fz10 z0 z1 z2 z3 z4 z5 z6 z7 z8 z9 z10 hFd
    obtain ⟨z0, z1, z2, z3, z4, z5, z6, z7, z8, z9, z10⟩ := HZU.out.eleven
    go_wp2_with fail
    refine bodyPost_ret (v := .tuple #[refD E (.slice la2 xs2.length lc2) (.slice wa2 ys2.length wc2) (.slice ka2 E.keep.length kc2), .bool true]) (by simp [results, Tryd.results60, go_sem, refD, z0, z1, z2, z3, z4, z5, z6, z7, z8, z9, z10]) rfl ?_
    have h2r : DiskR (More G W w2) w4 E (.slice la2 xs2.length lc2) (.slice wa2 ys2.length wc2) (.slice ka2 E.keep.length kc2) xs2 ys2 := H2.out.on fun q hq => by
      have hql : q < w2.heap.size ∧ ¬ F q := by
        have h0 := HB.out.size
        have h1 := HB2.out.size
        rcases hq with h | h
        · have := HG.out q h; exact ⟨by omega, HGF.out q h⟩
        · exact ⟨h.2, fun hf => by have := HFL.out q hf; omega⟩
      rw [HB4.out.block q hql.1 hql.2]
    exact Stepped.fin HDR.out h2r HF.out HG.out HGF.out HG4R.out HBR.out ⟨by omega, by omega⟩ HB2.out.size (Nat.le_refl _) HB4.out.size HGU.out

set_option maxRecDepth 100000 in
set_option maxHeartbeats 1000000 in
theorem power04_on {F G : Nat → Prop} {w : World} {p n : Nat} {d E : Bk.Disk} {k : Nat} {v : Value} (hd : DiskAt F w p d) (hr : RefAt G w v d) (hF : Held F w) (hG : Held G w) (hGF : ∀ k, G k → ¬ F k) (ho : Bk.Ok n d) (hn : n ≤ 999) (A : Nat → Addr) (hsF : ∀ w1, Beside F w w1 → Sents w1 A) (a : BAct) (hkp : RowAt eBool w (.slice a.ka a.keep.length a.kc) a.keep) (hkG : a.keep = [] ∨ InG G (.slice a.ka a.keep.length a.kc)) (hkl : a.keep.length ≤ 140737488355328) (hk : a.kind = 5) (hE : Bk.on d = E) :
    Calls Tryd.prog 80 #[.pointer (some ⟨p, 0, none⟩), v, .agg a.cells.toArray] w (Stepped F G w p E) := by
  obtain ⟨kind, ai, fill, short, ka, keep, kc, torn, cut, mask⟩ := a
  simp only [BAct.cells] at *
  obtain ⟨lv, wv, kv, xs, ys, rfl, h⟩ := hr
  obtain ⟨la, lc, wa, wc, kaa, kcc, rfl, rfl, rfl⟩ := h.shape
  have H := Lib.hid h
  have HD := Lib.hid hd
  have HF := Lib.hid hF
  have HG := Lib.hid hG
  have HGF := Lib.hid hGF
  have HO := Lib.hid ho
  have HS := Lib.hid hsF
  have HKP := Lib.hid hkp
  have HKG := Lib.hid hkG
  have HKL := Lib.hid hkl
  have HE := Lib.hid hE
  have HN := Lib.hid hn
  subst hk
  clear h hd hF hG hGF ho hsF hkp hkG hkl hE hn
  unfold refD
  go_enter Tryd.func80, Tryd.ntmps80
  go_upto_region 1 with fail
  refine wp_name fun W hW => ?_
  have HX := Lib.hid (show BoxAt W w.heap.size [.int .i64 (d.blocks : Int), .int .i64 (d.size : Int), .slice la xs.length lc, .slice wa ys.length wc, .bool d.lit, .int .i64 d.after, .int .i64 d.torn, .int .i64 d.cut, .slice kaa d.keep.length kcc, .bool d.off, .int .i64 d.count] by rw [hW]; exact ((BoxAt.new w [_, _, _, _, _, _, _, _, _, _, _] _).alloc _).alloc _)
  have HY := Lib.hid (show BoxAt W (w.heap.size + 1) [.int .i64 5, .int .i64 ai, .int .u8 (fill.toNat : Int), .bool short, .slice ka keep.length kc, .int .i64 torn, .int .i64 cut, .int .u32 (mask.toNat : Int)] by rw [hW]; exact (BoxAt.newAt _ _ (by simp) [_, _, _, _, _, _, _, _] _).alloc _)
  have HZ := Lib.hid (show BoxAt W (w.heap.size + 1 + 1) zeroD by rw [hW]; exact BoxAt.newAt _ _ (by simp) [_, _, _, _, _, _, _, _, _, _, _] _)
  have HB := Lib.hid (show Below w.heap.size w W by rw [hW]; go_grown)
  have hW3 : w.heap.size + 1 + 1 < W.heap.size := HZ.out.lt
  clear hW
  have HDW := Lib.hid (HD.out.below HF.out HB.out)
  have HRW := Lib.hid (show RefAt G W (.agg #[.int .i64 (d.blocks : Int), .int .i64 (d.size : Int), .slice la xs.length lc, .slice wa ys.length wc, .bool d.lit, .int .i64 d.after, .int .i64 d.torn, .int .i64 d.cut, .slice kaa d.keep.length kcc, .bool d.off, .int .i64 d.count]) d from (H.out.at).below HG.out HB.out)
  have HHW := Lib.hid (HG.out.more HB.out.size)
  have HFW := Lib.hid (HF.out.more HB.out.size)
  obtain ⟨x0, x1, x2, x3, x4, x5, x6, x7, x8, x9, x10⟩ := HX.out.eleven
  obtain ⟨m0, m1, m2, m3, m4, m5, m6, m7⟩ := HY.out.eight
  have hFlt : ∀ q, F q → q < w.heap.size := fun q hq => HF.out q hq
  have hFd : ∀ q, w.heap.size ≤ q → ¬ F q := fun q hq h => by have := hFlt q h; omega
  have HFL := Lib.hid hFlt
  clear hFlt
  have HBX := Lib.hid (hFd w.heap.size (Nat.le_refl _))
  have HBZ := Lib.hid (hFd (w.heap.size + 1 + 1) (by omega))
  clear hFd
  go_upto_region 7 with (go_at_call 22; (refine (on_to HDW.out HE.out).mono ?_); (rintro e w1 ⟨⟨u1, rfl⟩, hd1, hb1⟩); (have HD1 := Lib.hid hd1); (have HB1 := Lib.hid hb1); (have HX1 := Lib.hid (HX.out.beside hb1 HBX.out)); (have HZ1 := Lib.hid (HZ.out.beside hb1 HBZ.out)); (clear hd1 hb1 x0 x1 x2 x3 x4 x5 x6 x7 x8 x9 x10 m0 m1 m2 m3 m4 m5 m6 m7); (obtain ⟨x0, x1, x2, x3, x4, x5, x6, x7, x8, x9, x10⟩ := HX1.out.eleven))
  have hr1 : RefAt G w1 (.agg #[.int .i64 (d.blocks : Int), .int .i64 (d.size : Int), .slice la xs.length lc, .slice wa ys.length wc, .bool d.lit, .int .i64 d.after, .int .i64 d.torn, .int .i64 d.cut, .slice kaa d.keep.length kcc, .bool d.off, .int .i64 d.count]) d := HRW.out.on fun q hq => HB1.out.block q (HHW.out q hq) (HGF.out q hq)
  have hw1 := HB1.out.size
  have HR1 := Lib.hid hr1
  clear hr1
  go_wp2_with (go_at_call 24; (refine (refOn4_to HR1.out (fun q hq => Nat.lt_of_lt_of_le (HHW.out q hq) hw1) HE.out).mono ?_); (rintro e w4 ⟨⟨v2, rfl, hr2⟩, hb2⟩); (obtain ⟨lv2, wv2, kv2, xs2, ys2, rfl, h2⟩ := hr2); (obtain ⟨la2, lc2, wa2, wc2, ka2, kc2, rfl, rfl, rfl⟩ := h2.shape); (have H2 := Lib.hid h2); (have HB2 := Lib.hid hb2); (have HZ4 := Lib.hid (HZ1.out.below hb2)); (clear h2 hb2 x0 x1 x2 x3 x4 x5 x6 x7 x8 x9 x10); (obtain ⟨fz0, fz1, fz2, fz3, fz4, fz5, fz6, fz7, fz8, fz9, fz10⟩ := HZ4.out.elevenF); (obtain ⟨z0, z1, z2, z3, z4, z5, z6, z7, z8, z9, z10⟩ := HZ4.out.eleven); (unfold refD))
  refine bodyPost_ret (v := .tuple #[refD E (.slice la2 xs2.length lc2) (.slice wa2 ys2.length wc2) (.slice ka2 E.keep.length kc2), .bool true]) (by simp [results, Tryd.results80, go_sem, refD, z0, z1, z2, z3, z4, z5, z6, z7, z8, z9, z10]) rfl ?_
  have hgu := (fill11 HZ4.out (.int .i64 (E.blocks : Int)) (.int .i64 (E.size : Int)) (.slice la2 xs2.length lc2) (.slice wa2 ys2.length wc2) (.bool E.lit) (.int .i64 E.after) (.int .i64 E.torn) (.int .i64 E.cut) (.slice ka2 E.keep.length kc2) (.bool E.off) (.int .i64 E.count)).2
  have hb0 : Beside F w w1 := (Beside.of_below HB.out).same HB1.out
  have hb4 : Beside F w w4 := hb0.same (Beside.of_below HB2.out)
  have hF1 : Held F w1 := fun q hq => Nat.lt_of_lt_of_le (HFW.out q hq) hw1
  have hg4 : ∀ q, F q → (F q ∨ w4.heap.size ≤ q) ∧ q < w4.heap.size := fun q hq => ⟨.inl hq, Nat.lt_of_lt_of_le (hF1 q hq) HB2.out.size⟩
  exact Stepped.fin (V := w4) (HD1.out.below hF1 HB2.out) H2.out HF.out HG.out HGF.out hg4 hb4 ⟨by omega, by omega⟩ HB2.out.size (Nat.le_refl _) (Nat.le_refl _) hgu

def powerT (d : Bk.Disk) (a : BAct) : Bk.Disk × Nat := if a.kind = 4 then Bk.arm d a.i a.keep a.torn a.cut else if a.kind = 5 then (Bk.on d, 0) else Bk.corrupt d a.i a.cut a.mask
theorem power04_any {F G : Nat → Prop} {w : World} {p n : Nat} {d E : Bk.Disk} {k : Nat} {v : Value} (hd : DiskAt F w p d) (hr : RefAt G w v d) (hF : Held F w) (hG : Held G w) (hGF : ∀ k, G k → ¬ F k) (ho : Bk.Ok n d) (hn : n ≤ 999) (A : Nat → Addr) (hsF : ∀ w1, Beside F w w1 → Sents w1 A) (a : BAct) (hkp : RowAt eBool w (.slice a.ka a.keep.length a.kc) a.keep) (hkG : a.keep = [] ∨ InG G (.slice a.ka a.keep.length a.kc)) (hkl : a.keep.length ≤ 140737488355328) (hE : powerT d a = (E, k)) :
    Calls Tryd.prog 80 #[.pointer (some ⟨p, 0, none⟩), v, .agg a.cells.toArray] w (Stepped F G w p E) := by
  unfold powerT at hE
  by_cases h4 : a.kind = 4
  · rw [if_pos h4] at hE
    exact power04_arm hd hr hF hG hGF ho hn A hsF a hkp hkG hkl h4 hE
  · rw [if_neg h4] at hE
    by_cases h5 : a.kind = 5
    · rw [if_pos h5] at hE
      obtain ⟨h1, rfl⟩ := Prod.mk.inj hE
      exact power04_on (k := 0) hd hr hF hG hGF ho hn A hsF a hkp hkG hkl h5 h1
    · rw [if_neg h5] at hE
      exact power04_cor hd hr hF hG hGF ho hn A hsF a hkp hkG hkl h4 h5 hE

set_option maxRecDepth 100000 in
set_option maxHeartbeats 1000000 in
theorem step04_power {F G : Nat → Prop} {w : World} {p n : Nat} {d E : Bk.Disk} {k : Nat} {v : Value} (hd : DiskAt F w p d) (hr : RefAt G w v d) (hF : Held F w) (hG : Held G w) (hGF : ∀ k, G k → ¬ F k) (ho : Bk.Ok n d) (hn : n ≤ 999) (A : Nat → Addr) (hsF : ∀ w1, Beside F w w1 → Sents w1 A) (a : BAct) (hkp : RowAt eBool w (.slice a.ka a.keep.length a.kc) a.keep) (hkG : a.keep = [] ∨ InG G (.slice a.ka a.keep.length a.kc)) (hkl : a.keep.length ≤ 140737488355328) (hk0 : a.kind ≠ 0) (hk1 : a.kind ≠ 1) (hk2 : a.kind ≠ 2) (hE : powerT d a = (E, k)) :
    Calls Tryd.prog 60 #[.pointer (some ⟨p, 0, none⟩), v, .agg a.cells.toArray] w (Stepped F G w p E) := by
  obtain ⟨kind, ai, fill, short, ka, keep, kc, torn, cut, mask⟩ := a
  simp only [BAct.cells] at *
  obtain ⟨lv, wv, kv, xs, ys, rfl, h⟩ := hr
  obtain ⟨la, lc, wa, wc, kaa, kcc, rfl, rfl, rfl⟩ := h.shape
  have H := Lib.hid h
  have HD := Lib.hid hd
  have HF := Lib.hid hF
  have HG := Lib.hid hG
  have HGF := Lib.hid hGF
  have HO := Lib.hid ho
  have HS := Lib.hid hsF
  have HKP := Lib.hid hkp
  have HKG := Lib.hid hkG
  have HKL := Lib.hid hkl
  have HE := Lib.hid hE
  have HN := Lib.hid hn
  have hk0' : (kind == 0) = false := by simpa using hk0
  have hk1' : (kind == 1) = false := by simpa using hk1
  have hk2' : (kind == 2) = false := by simpa using hk2
  clear hk0 hk1 hk2
  clear h hd hF hG hGF ho hsF hkp hkG hkl hE hn
  unfold refD
  go_enter Tryd.func60, Tryd.ntmps60
  go_upto_region 1 with fail
  refine wp_name fun W hW => ?_
  have HX := Lib.hid (show BoxAt W w.heap.size [.int .i64 (d.blocks : Int), .int .i64 (d.size : Int), .slice la xs.length lc, .slice wa ys.length wc, .bool d.lit, .int .i64 d.after, .int .i64 d.torn, .int .i64 d.cut, .slice kaa d.keep.length kcc, .bool d.off, .int .i64 d.count] by rw [hW]; exact ((BoxAt.new w [_, _, _, _, _, _, _, _, _, _, _] _).alloc _).alloc _)
  have HY := Lib.hid (show BoxAt W (w.heap.size + 1) [.int .i64 kind, .int .i64 ai, .int .u8 (fill.toNat : Int), .bool short, .slice ka keep.length kc, .int .i64 torn, .int .i64 cut, .int .u32 (mask.toNat : Int)] by rw [hW]; exact (BoxAt.newAt _ _ (by simp) [_, _, _, _, _, _, _, _] _).alloc _)
  have HZ := Lib.hid (show BoxAt W (w.heap.size + 1 + 1) zeroD by rw [hW]; exact BoxAt.newAt _ _ (by simp) [_, _, _, _, _, _, _, _, _, _, _] _)
  have HB := Lib.hid (show Below w.heap.size w W by rw [hW]; go_grown)
  have hW3 : w.heap.size + 1 + 1 < W.heap.size := HZ.out.lt
  clear hW
  have HDW := Lib.hid (HD.out.below HF.out HB.out)
  have HRW := Lib.hid (show RefAt G W (.agg #[.int .i64 (d.blocks : Int), .int .i64 (d.size : Int), .slice la xs.length lc, .slice wa ys.length wc, .bool d.lit, .int .i64 d.after, .int .i64 d.torn, .int .i64 d.cut, .slice kaa d.keep.length kcc, .bool d.off, .int .i64 d.count]) d from (H.out.at).below HG.out HB.out)
  have HHW := Lib.hid (HG.out.more HB.out.size)
  have HFW := Lib.hid (HF.out.more HB.out.size)
  obtain ⟨x0, x1, x2, x3, x4, x5, x6, x7, x8, x9, x10⟩ := HX.out.eleven
  obtain ⟨m0, m1, m2, m3, m4, m5, m6, m7⟩ := HY.out.eight
  have hFlt : ∀ q, F q → q < w.heap.size := fun q hq => HF.out q hq
  have hFd : ∀ q, w.heap.size ≤ q → ¬ F q := fun q hq h => by have := hFlt q h; omega
  have HFL := Lib.hid hFlt
  clear hFlt
  have HBZ := Lib.hid (hFd (w.heap.size + 1 + 1) (by omega))
  have hzG : ∀ q, G q → q < w.heap.size := fun q hq => HG.out q hq
  have HZG := Lib.hid hzG
  clear hFd hzG
  go_wp2_with (go_at_call 80; (refine (power04_any HDW.out HRW.out HFW.out HHW.out HGF.out HO.out HN.out A (fun wx hx => HS.out wx ((Beside.of_below HB.out).same hx)) ⟨kind, ai, fill, short, ka, keep, kc, torn, cut, mask⟩ (HKP.out.below HB.out) HKG.out HKL.out HE.out).mono ?_); (rintro e w4 ⟨F4, G4, v4, rfl, hd4, hr4, hb4, hg4, hgg4, hgf4⟩); (obtain ⟨lv2, wv2, kv2, xs2, ys2, rfl, h2⟩ := hr4); (obtain ⟨la2, lc2, wa2, wc2, ka2, kc2, rfl, rfl, rfl⟩ := h2.shape); (have H2 := Lib.hid h2); (have HD4 := Lib.hid hd4); (have HB4 := Lib.hid hb4); (have HG4 := Lib.hid hg4); (have HGG4 := Lib.hid hgg4); (have HGF4 := Lib.hid hgf4); (have HZ4 := Lib.hid (HZ.out.beside hb4 HBZ.out)); (clear h2 hd4 hb4 hg4 hgg4 hgf4 x0 x1 x2 x3 x4 x5 x6 x7 x8 x9 x10 m0 m1 m2 m3 m4 m5 m6 m7); (obtain ⟨fz0, fz1, fz2, fz3, fz4, fz5, fz6, fz7, fz8, fz9, fz10⟩ := HZ4.out.elevenF); (obtain ⟨z0, z1, z2, z3, z4, z5, z6, z7, z8, z9, z10⟩ := HZ4.out.eleven); (unfold refD))
  refine bodyPost_ret (v := .tuple #[refD E (.slice la2 xs2.length lc2) (.slice wa2 ys2.length wc2) (.slice ka2 E.keep.length kc2), .bool true]) (by simp [results, Tryd.results60, go_sem, refD, z0, z1, z2, z3, z4, z5, z6, z7, z8, z9, z10]) rfl ?_
  have hgu := (fill11 HZ4.out (.int .i64 (E.blocks : Int)) (.int .i64 (E.size : Int)) (.slice la2 xs2.length lc2) (.slice wa2 ys2.length wc2) (.bool E.lit) (.int .i64 E.after) (.int .i64 E.torn) (.int .i64 E.cut) (.slice ka2 E.keep.length kc2) (.bool E.off) (.int .i64 E.count)).2
  have hs := hgu.size
  have hb0 : Beside F w w4 := (Beside.of_below HB.out).same HB4.out
  have hF4 : ∀ q, F4 q → q ≠ w.heap.size + 1 + 1 := fun q hq => by
    rcases (HG4.out q hq).1 with h | h
    · have := HFL.out q h; omega
    · omega
  have hG4 : ∀ q, G4 q → q ≠ w.heap.size + 1 + 1 := fun q hq => by
    rcases (HGG4.out q hq).1 with h | h
    · have := HZG.out q h; omega
    · omega
  have hWs := HB.out.size
  refine ⟨F4, G4, _, rfl, HD4.out.on fun q hq => hgu.block q (HG4.out q hq).2 (by simpa using hF4 q hq), ⟨_, _, _, _, _, rfl, H2.out.on fun q hq => hgu.block q (HGG4.out q hq).2 (by simpa using hG4 q hq)⟩, ?_, ?_, ?_, HGF4.out⟩
  · exact ⟨hgu.os.trans hb0.os, hgu.tape.trans hb0.tape, hgu.output.trans hb0.output, Nat.le_trans hb0.size hs, fun q hq hn => by rw [hgu.block q (Nat.lt_of_lt_of_le hq hb0.size) (by simp; omega), hb0.block q hq hn]⟩
  · exact fun q hq => ⟨(HG4.out q hq).1.imp id fun h => by omega, Nat.lt_of_lt_of_le (HG4.out q hq).2 hs⟩
  · exact fun q hq => ⟨(HGG4.out q hq).1.imp id fun h => by omega, Nat.lt_of_lt_of_le (HGG4.out q hq).2 hs⟩

theorem step04_any {F G : Nat → Prop} {w : World} {p n : Nat} {d E : Bk.Disk} {k : Nat} {v : Value} (hd : DiskAt F w p d) (hr : RefAt G w v d) (hF : Held F w) (hG : Held G w) (hGF : ∀ k, G k → ¬ F k) (ho : Bk.Ok n d) (hn : n ≤ 999) (A : Nat → Addr) (hsF : ∀ w1, Beside F w w1 → Sents w1 A) (a : BAct) (hkp : RowAt eBool w (.slice a.ka a.keep.length a.kc) a.keep) (hkG : a.keep = [] ∨ InG G (.slice a.ka a.keep.length a.kc)) (hkl : a.keep.length ≤ 140737488355328) (hE : stepT d a = (E, k)) :
    Calls Tryd.prog 60 #[.pointer (some ⟨p, 0, none⟩), v, .agg a.cells.toArray] w (Stepped F G w p E) := by
  unfold stepT at hE
  by_cases h0 : a.kind = 0
  · rw [if_pos h0] at hE
    exact step04_put hd hr hF hG hGF ho hn A hsF a hkp hkG hkl h0 hE
  · rw [if_neg h0] at hE
    by_cases h1 : a.kind = 1
    · rw [if_pos h1] at hE
      exact step04_flush hd hr hF hG hGF ho hn A hsF a hkp hkG hkl h1 hE
    · rw [if_neg h1] at hE
      by_cases h2 : a.kind = 2
      · rw [if_pos h2] at hE
        obtain ⟨h3, rfl⟩ := Prod.mk.inj hE
        exact step04_crash (k := 0) hd hr hF hG hGF ho hn A hsF a hkp hkG hkl h2 h3
      · rw [if_neg h2] at hE
        exact step04_power hd hr hF hG hGF ho hn A hsF a hkp hkG hkl h0 h1 h2 hE

end Go.Proofs.YtflbioiildndoaaDoor
