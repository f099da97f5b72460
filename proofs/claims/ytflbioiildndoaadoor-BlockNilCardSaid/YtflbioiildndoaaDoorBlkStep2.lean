/- the statements of disks: the other kinds of a step (printed by wip/tools/gen_step04b.py) -/
import Derived.Test.YtflbioiildndoaaDoorBlkStep1
namespace Go.Proofs.YtflbioiildndoaaDoor
open Go.RowKit
set_option linter.unusedVariables false
set_option linter.unusedSimpArgs false

theorem Far.dcell {w : World} {F : Nat → Prop} {a : Addr} {v : Value} (h : w.cell? a = some v) (hr : ¬ F a.block) (x : Far w.drew F) : x.world.cell? a = some v := Far.cell (w := w.drew) h hr x

set_option maxRecDepth 100000 in
set_option maxHeartbeats 1000000 in
theorem step04_flush {F G : Nat → Prop} {w : World} {p n : Nat} {d E : Bk.Disk} {k : Nat} {v : Value} (hd : DiskAt F w p d) (hr : RefAt G w v d) (hF : Held F w) (hG : Held G w) (hGF : ∀ k, G k → ¬ F k) (ho : Bk.Ok n d) (hn : n ≤ 999) (A : Nat → Addr) (hsF : ∀ w1, Beside F w w1 → Sents w1 A) (a : BAct) (hkp : RowAt eBool w (.slice a.ka a.keep.length a.kc) a.keep) (hkG : a.keep = [] ∨ InG G (.slice a.ka a.keep.length a.kc)) (hkl : a.keep.length ≤ 140737488355328) (hk : a.kind = 1) (hE : Bk.flush d = (E, k)) :
    Calls Tryd.prog 60 #[.pointer (some ⟨p, 0, none⟩), v, .agg a.cells.toArray] w (Stepped F G w p E) := by
  obtain ⟨kind, ai, fill, short, ka, keep, kc, torn, cut, mask⟩ := a
  simp only [BAct.cells] at *
  obtain ⟨lv, wv, kv, xs, ys, rfl, h⟩ := hr
  obtain ⟨la, lc, wa, wc, kaa, kcc, rfl, rfl, rfl⟩ := h.shape
  have H := Lib.hid h
  have HD := Lib.hid hd
  have HF := Lib.hid hF
  have HG := Lib.hid hG
  have HGF := Lib.hid hGF
  have HO := Lib.hid ho
  have HS := Lib.hid hsF
  have HKP := Lib.hid hkp
  have HKG := Lib.hid hkG
  have HKL := Lib.hid hkl
  have HE := Lib.hid hE
  have HN := Lib.hid hn
  subst hk
  clear h hd hF hG hGF ho hsF hkp hkG hkl hE hn
  unfold refD
  go_enter Tryd.func60, Tryd.ntmps60
  go_upto_region 1 with fail
  refine wp_name fun W hW => ?_
  have HX := Lib.hid (show BoxAt W w.heap.size [.int .i64 (d.blocks : Int), .int .i64 (d.size : Int), .slice la xs.length lc, .slice wa ys.length wc, .bool d.lit, .int .i64 d.after, .int .i64 d.torn, .int .i64 d.cut, .slice kaa d.keep.length kcc, .bool d.off, .int .i64 d.count] by rw [hW]; exact ((BoxAt.new w [_, _, _, _, _, _, _, _, _, _, _] _).alloc _).alloc _)
  have HY := Lib.hid (show BoxAt W (w.heap.size + 1) [.int .i64 1, .int .i64 ai, .int .u8 (fill.toNat : Int), .bool short, .slice ka keep.length kc, .int .i64 torn, .int .i64 cut, .int .u32 (mask.toNat : Int)] by rw [hW]; exact (BoxAt.newAt _ _ (by simp) [_, _, _, _, _, _, _, _] _).alloc _)
  have HZ := Lib.hid (show BoxAt W (w.heap.size + 1 + 1) zeroD by rw [hW]; exact BoxAt.newAt _ _ (by simp) [_, _, _, _, _, _, _, _, _, _, _] _)
  have HB := Lib.hid (show Below w.heap.size w W by rw [hW]; go_grown)
  have hW3 : w.heap.size + 1 + 1 < W.heap.size := HZ.out.lt
  clear hW
  have HDW := Lib.hid (HD.out.below HF.out HB.out)
  have HRW := Lib.hid (show RefAt G W (.agg #[.int .i64 (d.blocks : Int), .int .i64 (d.size : Int), .slice la xs.length lc, .slice wa ys.length wc, .bool d.lit, .int .i64 d.after, .int .i64 d.torn, .int .i64 d.cut, .slice kaa d.keep.length kcc, .bool d.off, .int .i64 d.count]) d from (H.out.at).below HG.out HB.out)
  have HHW := Lib.hid (HG.out.more HB.out.size)
  have HFW := Lib.hid (HF.out.more HB.out.size)
  obtain ⟨x0, x1, x2, x3, x4, x5, x6, x7, x8, x9, x10⟩ := HX.out.eleven
  obtain ⟨m0, m1, m2, m3, m4, m5, m6, m7⟩ := HY.out.eight
  go_upto_region 15 with (go_at_call 23; (refine (refFlush4_to HRW.out HO.out HHW.out HE.out).mono ?_); (rintro e w2 ⟨⟨v2, rfl, hr2⟩, hb2⟩); (obtain ⟨lv2, wv2, kv2, xs2, ys2, rfl, h2⟩ := hr2); (obtain ⟨la2, lc2, wa2, wc2, ka2, kc2, rfl, rfl, rfl⟩ := h2.shape); (have H2 := Lib.hid h2); (have HB2 := Lib.hid hb2); (have HX2 := Lib.hid (HX.out.below hb2)); (have HY2 := Lib.hid (HY.out.below hb2)); (clear h2 hb2 m0 m1 m2 m3 m4 m5 m6 m7 x0 x1 x2 x3 x4 x5 x6 x7 x8 x9 x10); (obtain ⟨x0, x1, x2, x3, x4, x5, x6, x7, x8, x9, x10⟩ := HX2.out.eleven); (obtain ⟨m0, m1, m2, m3, m4, m5, m6, m7⟩ := HY2.out.eight); (unfold refD))
  refine wp_name fun V hV => ?_
  obtain ⟨nb, hnb⟩ : ∃ nb, w2.heap.size = nb := ⟨_, rfl⟩
  have hvb : BoxAt V nb [.int .i64 (E.blocks : Int), .int .i64 (E.size : Int), .slice la2 xs2.length lc2, .slice wa2 ys2.length wc2, .bool E.lit, .int .i64 E.after, .int .i64 E.torn, .int .i64 E.cut, .slice ka2 E.keep.length kc2, .bool E.off, .int .i64 E.count] ∧ Below w2.heap.size w2 V := by
    rw [hV]
    exact ⟨BoxAt.newAt _ _ hnb [_, _, _, _, _, _, _, _, _, _, _] _, (Below.refl _ _).alloc (Nat.le_refl _) _⟩
  have HV9 := Lib.hid hvb.1
  have HBV := Lib.hid hvb.2
  have HYV := Lib.hid (HY2.out.below hvb.2)
  have hnbW : W.heap.size ≤ nb := by rw [← hnb]; exact HB2.out.size
  rw [hnb]
  have HB3 := Lib.hid (below_step HB2.out HBV.out)
  clear hV hvb hnb m0 m1 m2 m3 m4 m5 m6 m7 x0 x1 x2 x3 x4 x5 x6 x7 x8 x9 x10
  have HDV := Lib.hid (HDW.out.below HFW.out HB3.out)
  have HFV := Lib.hid (HFW.out.more HB3.out.size)
  have HBWV := Lib.hid (HB.out.trans (HB3.out.mono HB.out.size))
  have hFlt : ∀ q, F q → q < w.heap.size := fun q hq => HF.out q hq
  have hFd : ∀ q, w.heap.size ≤ q → ¬ F q := fun q hq h => by have := hFlt q h; omega
  have HFD := Lib.hid hFd
  have HFL := Lib.hid hFlt
  have HVX := Lib.hid HV9.out
  clear hFlt
  obtain ⟨x0, x1, x2, x3, x4, x5, x6, x7, x8, x9, x10⟩ := HVX.out.eleven
  have hnbw : w.heap.size ≤ nb := by have := HB.out.size; omega
  have q0 := Far.dcell (w := V) (F := F) x0 (hFd nb hnbw)
  have q1 := Far.dcell (w := V) (F := F) x1 (hFd nb hnbw)
  have q2 := Far.dcell (w := V) (F := F) x2 (hFd nb hnbw)
  have q3 := Far.dcell (w := V) (F := F) x3 (hFd nb hnbw)
  have q4 := Far.dcell (w := V) (F := F) x4 (hFd nb hnbw)
  have q5 := Far.dcell (w := V) (F := F) x5 (hFd nb hnbw)
  have q6 := Far.dcell (w := V) (F := F) x6 (hFd nb hnbw)
  have q7 := Far.dcell (w := V) (F := F) x7 (hFd nb hnbw)
  have q8 := Far.dcell (w := V) (F := F) x8 (hFd nb hnbw)
  have q9 := Far.dcell (w := V) (F := F) x9 (hFd nb hnbw)
  have q10 := Far.dcell (w := V) (F := F) x10 (hFd nb hnbw)
  obtain ⟨m0, m1, m2, m3, m4, m5, m6, m7⟩ := HYV.out.eight
  have p0 := Far.dcell (w := V) (F := F) m0 (hFd (w.heap.size + 1) (by omega))
  have p1 := Far.dcell (w := V) (F := F) m1 (hFd (w.heap.size + 1) (by omega))
  have p2 := Far.dcell (w := V) (F := F) m2 (hFd (w.heap.size + 1) (by omega))
  have p3 := Far.dcell (w := V) (F := F) m3 (hFd (w.heap.size + 1) (by omega))
  have p4 := Far.dcell (w := V) (F := F) m4 (hFd (w.heap.size + 1) (by omega))
  have p5 := Far.dcell (w := V) (F := F) m5 (hFd (w.heap.size + 1) (by omega))
  have p6 := Far.dcell (w := V) (F := F) m6 (hFd (w.heap.size + 1) (by omega))
  have p7 := Far.dcell (w := V) (F := F) m7 (hFd (w.heap.size + 1) (by omega))
  refine wp_region_mix (fun w' => ∃ x : Far V.drew F, w' = x.world) [5] 7 (by kernel_rfl) rfl ?_
  refine mix_reads_lit [0, 1, 3] 4 (by kernel_rfl) (by kernel_rfl) (by kernel_rfl) (by kernel_rfl) rfl (FarC.of (Beside.refl _ _)) ?_
  simp only [pick, List.filterMap_cons, List.filterMap_nil, List.getElem?_cons_succ, List.getElem?_cons_zero]
  repeat (first | go_big_quiet_step (fail) | quiet_step (fail))
  refine wpQuiet_nil ?_
  refine mix_deed_lit 2 3 (by kernel_rfl) (by kernel_rfl) rfl (fun K hK => ?_)
  simp only [comesUp, List.getElem?_cons_succ, List.getElem?_cons_zero]
  refine if_mk rfl ?_
  go_simp
  refine (flush_to HDV.out.drew HO.out (fun q hq => HFV.out q hq) HE.out A (fun wx hx => HS.out wx ((Beside.of_below HBWV.out).same ⟨hx.os, hx.tape, hx.output, hx.size, hx.block⟩))).mono ?_
  rintro e w4 ⟨F4, l4, v4, rfl, hE4, hd4, hb4, hg4⟩
  refine hK _ _ (fun _ _ => FarC.of hb4) ?_
  clear hK K
  have hb4' : Beside F V w4 := ⟨hb4.os, hb4.tape, hb4.output, hb4.size, hb4.block⟩
  have hg4' : ∀ q, F4 q → (F q ∨ V.heap.size ≤ q) ∧ q < w4.heap.size := fun q hq => hg4 q hq
  have hb0 : Beside F w w4 := (Beside.of_below HBWV.out).same hb4'
  have HZ4 := Lib.hid ((HZ.out.below HB3.out).beside hb4' (hFd _ (by omega)))
  have HSR := Lib.hid (HS.out w4 hb0)
  have HER := Lib.hid hE4
  have HDR := Lib.hid hd4
  have HBR := Lib.hid hb0
  have HG4R := Lib.hid hg4'
  have HB4 := Lib.hid hb4'
  clear hE4 hd4 hb4 hg4 hb4' hg4' hb0
  refine mix_deed_lit 4 2 (by kernel_rfl) (by kernel_rfl) rfl (fun K hK => ?_)
  simp only [comesUp, List.getElem?_cons_succ, List.getElem?_cons_zero]
  refine if_mk rfl ?_
  go_simp
  refine (tells04_any (w := w4) HSR.out l4 k _ HER.out _ rfl).mono ?_
  rintro e w5 ⟨rfl, rfl⟩
  refine hK _ _ (fun _ h => h) ?_
  clear hK K
  obtain ⟨fz0, fz1, fz2, fz3, fz4, fz5, fz6, fz7, fz8, fz9, fz10⟩ := HZ4.out.elevenF
  obtain ⟨z0, z1, z2, z3, z4, z5, z6, z7, z8, z9, z10⟩ := HZ4.out.eleven
  refine mix_deed_lit 5 1 (by kernel_rfl) (by kernel_rfl) rfl (fun K hK => ?_)
  simp only [comesUp, List.getElem?_cons_succ, List.getElem?_cons_zero]
  refine if_mk rfl ?_
  go_simp
  refine hK _ _ (fun h => by simp [keeps] at h) ?_
  clear hK K
  refine mix_flat_lit [6] 0 (by kernel_rfl) (by kernel_rfl) (by kernel_rfl) (by kernel_rfl) rfl ?_
  simp only [pick, List.filterMap_cons, List.filterMap_nil, List.getElem?_cons_succ, List.getElem?_cons_zero]
  repeat (first | go_big_quiet_step (fail) | quiet_step (fail))
  refine wpQuiet_nil ?_
  refine mix_done_lit (by kernel_rfl) ?_
  refine q_name fun U hU => ?_
  have hfv : BoxAt U (w.heap.size + 1 + 1) [.int .i64 (E.blocks : Int), .int .i64 (E.size : Int), .slice la2 xs2.length lc2, .slice wa2 ys2.length wc2, .bool E.lit, .int .i64 E.after, .int .i64 E.torn, .int .i64 E.cut, .slice ka2 E.keep.length kc2, .bool E.off, .int .i64 E.count] ∧ w4.grownBy U (some (w.heap.size + 1 + 1)) := by
    rw [hU]
    exact fill11 HZ4.out (.int .i64 (E.blocks : Int)) (.int .i64 (E.size : Int)) (.slice la2 xs2.length lc2) (.slice wa2 ys2.length wc2) (.bool E.lit) (.int .i64 E.after) (.int .i64 E.torn) (.int .i64 E.cut) (.slice ka2 E.keep.length kc2) (.bool E.off) (.int .i64 E.count)
  have HZU := Lib.hid hfv.1
  have HGU := Lib.hid hfv.2
  clear hU hfv x0 x1 x2 x3 x4 x5 x6 x7 x8 x9 x10 q0 q1 q2 q3 q4 q5 q6 q7 q8 q9 q10 m0 m1 m2 m3 m4 m5 m6 m7 p0 p1 p2 p3 p4 p5 p6 p7 fz0 fz1 fz2 fz3 fz4 fz5 fz6 fz7 fz8 fz9 fz10 z0 z1 z2 z3 z4 z5 z6 z7 z8 z9 z10 hFd
  obtain ⟨z0, z1, z2, z3, z4, z5, z6, z7, z8, z9, z10⟩ := HZU.out.eleven
  go_wp2_with fail
  refine bodyPost_ret (v := .tuple #[refD E (.slice la2 xs2.length lc2) (.slice wa2 ys2.length wc2) (.slice ka2 E.keep.length kc2), .bool true]) (by simp [results, Tryd.results60, go_sem, refD, z0, z1, z2, z3, z4, z5, z6, z7, z8, z9, z10]) rfl ?_
  have h2r : DiskR (More G W w2) w4 E (.slice la2 xs2.length lc2) (.slice wa2 ys2.length wc2) (.slice ka2 E.keep.length kc2) xs2 ys2 := H2.out.on fun q hq => by
    have hql : q < w2.heap.size ∧ ¬ F q := by
      have h0 := HB.out.size
      have h1 := HB2.out.size
      rcases hq with h | h
      · have := HG.out q h; exact ⟨by omega, HGF.out q h⟩
      · exact ⟨h.2, fun hf => by have := HFL.out q hf; omega⟩
    rw [HB4.out.block q (by have := HBV.out.size; omega) hql.2, HBV.out.block q hql.1]
  exact Stepped.fin HDR.out h2r HF.out HG.out HGF.out HG4R.out HBR.out ⟨by omega, by omega⟩ HB2.out.size HBV.out.size HB4.out.size HGU.out

set_option maxRecDepth 100000 in
set_option maxHeartbeats 1000000 in
theorem power04_arm {F G : Nat → Prop} {w : World} {p n : Nat} {d E : Bk.Disk} {k : Nat} {v : Value} (hd : DiskAt F w p d) (hr : RefAt G w v d) (hF : Held F w) (hG : Held G w) (hGF : ∀ k, G k → ¬ F k) (ho : Bk.Ok n d) (hn : n ≤ 999) (A : Nat → Addr) (hsF : ∀ w1, Beside F w w1 → Sents w1 A) (a : BAct) (hkp : RowAt eBool w (.slice a.ka a.keep.length a.kc) a.keep) (hkG : a.keep = [] ∨ InG G (.slice a.ka a.keep.length a.kc)) (hkl : a.keep.length ≤ 140737488355328) (hk : a.kind = 4) (hE : Bk.arm d a.i a.keep a.torn a.cut = (E, k)) :
    Calls Tryd.prog 80 #[.pointer (some ⟨p, 0, none⟩), v, .agg a.cells.toArray] w (Stepped F G w p E) := by
  obtain ⟨kind, ai, fill, short, ka, keep, kc, torn, cut, mask⟩ := a
  simp only [BAct.cells] at *
  obtain ⟨lv, wv, kv, xs, ys, rfl, h⟩ := hr
  obtain ⟨la, lc, wa, wc, kaa, kcc, rfl, rfl, rfl⟩ := h.shape
  have H := Lib.hid h
  have HD := Lib.hid hd
  have HF := Lib.hid hF
  have HG := Lib.hid hG
  have HGF := Lib.hid hGF
  have HO := Lib.hid ho
  have HS := Lib.hid hsF
  have HKP := Lib.hid hkp
  have HKG := Lib.hid hkG
  have HKL := Lib.hid hkl
  have HE := Lib.hid hE
  have HN := Lib.hid hn
  subst hk
  clear h hd hF hG hGF ho hsF hkp hkG hkl hE hn
  unfold refD
  go_enter Tryd.func80, Tryd.ntmps80
  go_upto_region 1 with fail
  refine wp_name fun W hW => ?_
  have HX := Lib.hid (show BoxAt W w.heap.size [.int .i64 (d.blocks : Int), .int .i64 (d.size : Int), .slice la xs.length lc, .slice wa ys.length wc, .bool d.lit, .int .i64 d.after, .int .i64 d.torn, .int .i64 d.cut, .slice kaa d.keep.length kcc, .bool d.off, .int .i64 d.count] by rw [hW]; exact ((BoxAt.new w [_, _, _, _, _, _, _, _, _, _, _] _).alloc _).alloc _)
  have HY := Lib.hid (show BoxAt W (w.heap.size + 1) [.int .i64 4, .int .i64 ai, .int .u8 (fill.toNat : Int), .bool short, .slice ka keep.length kc, .int .i64 torn, .int .i64 cut, .int .u32 (mask.toNat : Int)] by rw [hW]; exact (BoxAt.newAt _ _ (by simp) [_, _, _, _, _, _, _, _] _).alloc _)
  have HZ := Lib.hid (show BoxAt W (w.heap.size + 1 + 1) zeroD by rw [hW]; exact BoxAt.newAt _ _ (by simp) [_, _, _, _, _, _, _, _, _, _, _] _)
  have HB := Lib.hid (show Below w.heap.size w W by rw [hW]; go_grown)
  have hW3 : w.heap.size + 1 + 1 < W.heap.size := HZ.out.lt
  clear hW
  have HDW := Lib.hid (HD.out.below HF.out HB.out)
  have HRW := Lib.hid (show RefAt G W (.agg #[.int .i64 (d.blocks : Int), .int .i64 (d.size : Int), .slice la xs.length lc, .slice wa ys.length wc, .bool d.lit, .int .i64 d.after, .int .i64 d.torn, .int .i64 d.cut, .slice kaa d.keep.length kcc, .bool d.off, .int .i64 d.count]) d from (H.out.at).below HG.out HB.out)
  have HHW := Lib.hid (HG.out.more HB.out.size)
  have HFW := Lib.hid (HF.out.more HB.out.size)
  obtain ⟨x0, x1, x2, x3, x4, x5, x6, x7, x8, x9, x10⟩ := HX.out.eleven
  obtain ⟨m0, m1, m2, m3, m4, m5, m6, m7⟩ := HY.out.eight
  go_upto_region 4 with (go_at_call 93; (refine (refArm4_to HRW.out HHW.out ai torn cut _ keep (HKP.out.below HB.out) HKG.out HE.out).mono ?_); (rintro e w2 ⟨⟨v2, rfl, hr2⟩, hb2⟩); (obtain ⟨lv2, wv2, kv2, xs2, ys2, rfl, h2⟩ := hr2); (obtain ⟨la2, lc2, wa2, wc2, ka2, kc2, rfl, rfl, rfl⟩ := h2.shape); (have H2 := Lib.hid h2); (have HB2 := Lib.hid hb2); (have HX2 := Lib.hid (HX.out.below hb2)); (have HY2 := Lib.hid (HY.out.below hb2)); (clear h2 hb2 m0 m1 m2 m3 m4 m5 m6 m7 x0 x1 x2 x3 x4 x5 x6 x7 x8 x9 x10); (obtain ⟨x0, x1, x2, x3, x4, x5, x6, x7, x8, x9, x10⟩ := HX2.out.eleven); (obtain ⟨m0, m1, m2, m3, m4, m5, m6, m7⟩ := HY2.out.eight); (unfold refD))
  refine wp_name fun V hV => ?_
  obtain ⟨nb, hnb⟩ : ∃ nb, w2.heap.size = nb := ⟨_, rfl⟩
  have hvb : BoxAt V nb [.int .i64 (E.blocks : Int), .int .i64 (E.size : Int), .slice la2 xs2.length lc2, .slice wa2 ys2.length wc2, .bool E.lit, .int .i64 E.after, .int .i64 E.torn, .int .i64 E.cut, .slice ka2 E.keep.length kc2, .bool E.off, .int .i64 E.count] ∧ Below w2.heap.size w2 V := by
    rw [hV]
    exact ⟨BoxAt.newAt _ _ hnb [_, _, _, _, _, _, _, _, _, _, _] _, (Below.refl _ _).alloc (Nat.le_refl _) _⟩
  have HV9 := Lib.hid hvb.1
  have HBV := Lib.hid hvb.2
  have HYV := Lib.hid (HY2.out.below hvb.2)
  have hnbW : W.heap.size ≤ nb := by rw [← hnb]; exact HB2.out.size
  rw [hnb]
  have HB3 := Lib.hid (below_step HB2.out HBV.out)
  clear hV hvb hnb m0 m1 m2 m3 m4 m5 m6 m7 x0 x1 x2 x3 x4 x5 x6 x7 x8 x9 x10
  have HDV := Lib.hid (HDW.out.below HFW.out HB3.out)
  have HFV := Lib.hid (HFW.out.more HB3.out.size)
  have HBWV := Lib.hid (HB.out.trans (HB3.out.mono HB.out.size))
  have hFlt : ∀ q, F q → q < w.heap.size := fun q hq => HF.out q hq
  have hFd : ∀ q, w.heap.size ≤ q → ¬ F q := fun q hq h => by have := hFlt q h; omega
  have HFD := Lib.hid hFd
  have HFL := Lib.hid hFlt
  have HVX := Lib.hid HV9.out
  clear hFlt
  obtain ⟨x0, x1, x2, x3, x4, x5, x6, x7, x8, x9, x10⟩ := HVX.out.eleven
  have hnbw : w.heap.size ≤ nb := by have := HB.out.size; omega
  have q0 := Far.dcell (w := V) (F := F) x0 (hFd nb hnbw)
  have q1 := Far.dcell (w := V) (F := F) x1 (hFd nb hnbw)
  have q2 := Far.dcell (w := V) (F := F) x2 (hFd nb hnbw)
  have q3 := Far.dcell (w := V) (F := F) x3 (hFd nb hnbw)
  have q4 := Far.dcell (w := V) (F := F) x4 (hFd nb hnbw)
  have q5 := Far.dcell (w := V) (F := F) x5 (hFd nb hnbw)
  have q6 := Far.dcell (w := V) (F := F) x6 (hFd nb hnbw)
  have q7 := Far.dcell (w := V) (F := F) x7 (hFd nb hnbw)
  have q8 := Far.dcell (w := V) (F := F) x8 (hFd nb hnbw)
  have q9 := Far.dcell (w := V) (F := F) x9 (hFd nb hnbw)
  have q10 := Far.dcell (w := V) (F := F) x10 (hFd nb hnbw)
  obtain ⟨m0, m1, m2, m3, m4, m5, m6, m7⟩ := HYV.out.eight
  have p0 := Far.dcell (w := V) (F := F) m0 (hFd (w.heap.size + 1) (by omega))
  have p1 := Far.dcell (w := V) (F := F) m1 (hFd (w.heap.size + 1) (by omega))
  have p2 := Far.dcell (w := V) (F := F) m2 (hFd (w.heap.size + 1) (by omega))
  have p3 := Far.dcell (w := V) (F := F) m3 (hFd (w.heap.size + 1) (by omega))
  have p4 := Far.dcell (w := V) (F := F) m4 (hFd (w.heap.size + 1) (by omega))
  have p5 := Far.dcell (w := V) (F := F) m5 (hFd (w.heap.size + 1) (by omega))
  have p6 := Far.dcell (w := V) (F := F) m6 (hFd (w.heap.size + 1) (by omega))
  have p7 := Far.dcell (w := V) (F := F) m7 (hFd (w.heap.size + 1) (by omega))
  refine wp_region_mix (fun w' => ∃ x : Far V.drew F, w' = x.world) [13] 15 (by kernel_rfl) rfl ?_
  refine mix_reads_lit [0, 1, 2, 3, 4, 5, 6, 7, 8, 9, 11] 4 (by kernel_rfl) (by kernel_rfl) (by kernel_rfl) (by kernel_rfl) rfl (FarC.of (Beside.refl _ _)) ?_
  simp only [pick, List.filterMap_cons, List.filterMap_nil, List.getElem?_cons_succ, List.getElem?_cons_zero]
  repeat (first | go_big_quiet_step (fail) | quiet_step (fail))
  refine wpQuiet_nil ?_
  refine mix_deed_lit 10 3 (by kernel_rfl) (by kernel_rfl) rfl (fun K hK => ?_)
  simp only [comesUp, List.getElem?_cons_succ, List.getElem?_cons_zero]
  refine if_mk rfl ?_
  go_simp
  refine (arm_to HDV.out.drew (fun q hq => HFV.out q hq) ai torn cut _ keep ((HKP.out.below HBWV.out).below (Below.refl _ _).drew) HKL.out HE.out A ((HS.out V (Beside.of_below HBWV.out)).below (Below.refl _ _).drew)).mono ?_
  rintro e w4 ⟨F4, l4, v4, rfl, hE4, hd4, hb4, hg4⟩
  refine hK _ _ (fun _ _ => FarC.of hb4) ?_
  clear hK K
  have hb4' : Beside F V w4 := ⟨hb4.os, hb4.tape, hb4.output, hb4.size, hb4.block⟩
  have hg4' : ∀ q, F4 q → (F q ∨ V.heap.size ≤ q) ∧ q < w4.heap.size := fun q hq => hg4 q hq
  have hb0 : Beside F w w4 := (Beside.of_below HBWV.out).same hb4'
  have HZ4 := Lib.hid ((HZ.out.below HB3.out).beside hb4' (hFd _ (by omega)))
  have HSR := Lib.hid (HS.out w4 hb0)
  have HER := Lib.hid hE4
  have HDR := Lib.hid hd4
  have HBR := Lib.hid hb0
  have HG4R := Lib.hid hg4'
  have HB4 := Lib.hid hb4'
  clear hE4 hd4 hb4 hg4 hb4' hg4' hb0
  refine mix_deed_lit 12 2 (by kernel_rfl) (by kernel_rfl) rfl (fun K hK => ?_)
  simp only [comesUp, List.getElem?_cons_succ, List.getElem?_cons_zero]
  refine if_mk rfl ?_
  go_simp
  refine (tells04_any (w := w4) HSR.out l4 k _ HER.out _ rfl).mono ?_
  rintro e w5 ⟨rfl, rfl⟩
  refine hK _ _ (fun _ h => h) ?_
  clear hK K
  obtain ⟨fz0, fz1, fz2, fz3, fz4, fz5, fz6, fz7, fz8, fz9, fz10⟩ := HZ4.out.elevenF
  obtain ⟨z0, z1, z2, z3, z4, z5, z6, z7, z8, z9, z10⟩ := HZ4.out.eleven
  refine mix_deed_lit 13 1 (by kernel_rfl) (by kernel_rfl) rfl (fun K hK => ?_)
  simp only [comesUp, List.getElem?_cons_succ, List.getElem?_cons_zero]
  refine if_mk rfl ?_
  go_simp
  refine hK _ _ (fun h => by simp [keeps] at h) ?_
  clear hK K
  refine mix_flat_lit [14] 0 (by kernel_rfl) (by kernel_rfl) (by kernel_rfl) (by kernel_rfl) rfl ?_
  simp only [pick, List.filterMap_cons, List.filterMap_nil, List.getElem?_cons_succ, List.getElem?_cons_zero]
  repeat (first | go_big_quiet_step (fail) | quiet_step (fail))
  refine wpQuiet_nil ?_
  refine mix_done_lit (by kernel_rfl) ?_
  refine q_name fun U hU => ?_
  have hfv : BoxAt U (w.heap.size + 1 + 1) [.int .i64 (E.blocks : Int), .int .i64 (E.size : Int), .slice la2 xs2.length lc2, .slice wa2 ys2.length wc2, .bool E.lit, .int .i64 E.after, .int .i64 E.torn, .int .i64 E.cut, .slice ka2 E.keep.length kc2, .bool E.off, .int .i64 E.count] ∧ w4.grownBy U (some (w.heap.size + 1 + 1)) := by
    rw [hU]
    exact fill11 HZ4.out (.int .i64 (E.blocks : Int)) (.int .i64 (E.size : Int)) (.slice la2 xs2.length lc2) (.slice wa2 ys2.length wc2) (.bool E.lit) (.int .i64 E.after) (.int .i64 E.torn) (.int .i64 E.cut) (.slice ka2 E.keep.length kc2) (.bool E.off) (.int .i64 E.count)
  have HZU := Lib.hid hfv.1
  have HGU := Lib.hid hfv.2
  clear hU hfv x0 x1 x2 x3 x4 x5 x6 x7 x8 x9 x10 q0 q1 q2 q3 q4 q5 q6 q7 q8 q9 q10 m0 m1 m2 m3 m4 m5 m6 m7 p0 p1 p2 p3 p4 p5 p6 p7 fz0 fz1 fz2 fz3 fz4 fz5 fz6 fz7 fz8 fz9 fz10 z0 z1 z2 z3 z4 z5 z6 z7 z8 z9 z10 hFd
  obtain ⟨z0, z1, z2, z3, z4, z5, z6, z7, z8, z9, z10⟩ := HZU.out.eleven
  go_wp2_with fail
  refine bodyPost_ret (v := .tuple #[refD E (.slice la2 xs2.length lc2) (.slice wa2 ys2.length wc2) (.slice ka2 E.keep.length kc2), .bool true]) (by simp [results, Tryd.results80, go_sem, refD, z0, z1, z2, z3, z4, z5, z6, z7, z8, z9, z10]) rfl ?_
  have h2r : DiskR (More G W w2) w4 E (.slice la2 xs2.length lc2) (.slice wa2 ys2.length wc2) (.slice ka2 E.keep.length kc2) xs2 ys2 := H2.out.on fun q hq => by
    have hql : q < w2.heap.size ∧ ¬ F q := by
      have h0 := HB.out.size
      have h1 := HB2.out.size
      rcases hq with h | h
      · have := HG.out q h; exact ⟨by omega, HGF.out q h⟩
      · exact ⟨h.2, fun hf => by have := HFL.out q hf; omega⟩
    rw [HB4.out.block q (by have := HBV.out.size; omega) hql.2, HBV.out.block q hql.1]
  exact Stepped.fin HDR.out h2r HF.out HG.out HGF.out HG4R.out HBR.out ⟨by omega, by omega⟩ HB2.out.size HBV.out.size HB4.out.size HGU.out

set_option maxRecDepth 100000 in
set_option maxHeartbeats 1000000 in
theorem power04_cor {F G : Nat → Prop} {w : World} {p n : Nat} {d E : Bk.Disk} {k : Nat} {v : Value} (hd : DiskAt F w p d) (hr : RefAt G w v d) (hF : Held F w) (hG : Held G w) (hGF : ∀ k, G k → ¬ F k) (ho : Bk.Ok n d) (hn : n ≤ 999) (A : Nat → Addr) (hsF : ∀ w1, Beside F w w1 → Sents w1 A) (a : BAct) (hkp : RowAt eBool w (.slice a.ka a.keep.length a.kc) a.keep) (hkG : a.keep = [] ∨ InG G (.slice a.ka a.keep.length a.kc)) (hkl : a.keep.length ≤ 140737488355328) (hk4 : a.kind ≠ 4) (hk5 : a.kind ≠ 5) (hE : Bk.corrupt d a.i a.cut a.mask = (E, k)) :
    Calls Tryd.prog 80 #[.pointer (some ⟨p, 0, none⟩), v, .agg a.cells.toArray] w (Stepped F G w p E) := by
  obtain ⟨kind, ai, fill, short, ka, keep, kc, torn, cut, mask⟩ := a
  simp only [BAct.cells] at *
  obtain ⟨lv, wv, kv, xs, ys, rfl, h⟩ := hr
  obtain ⟨la, lc, wa, wc, kaa, kcc, rfl, rfl, rfl⟩ := h.shape
  have H := Lib.hid h
  have HD := Lib.hid hd
  have HF := Lib.hid hF
  have HG := Lib.hid hG
  have HGF := Lib.hid hGF
  have HO := Lib.hid ho
  have HS := Lib.hid hsF
  have HKP := Lib.hid hkp
  have HKG := Lib.hid hkG
  have HKL := Lib.hid hkl
  have HE := Lib.hid hE
  have HN := Lib.hid hn
  have hk4' : (kind == 4) = false := by simpa using hk4
  have hk5' : (kind == 5) = false := by simpa using hk5
  clear hk4 hk5
  clear h hd hF hG hGF ho hsF hkp hkG hkl hE hn
  unfold refD
  go_enter Tryd.func80, Tryd.ntmps80
  go_upto_region 1 with fail
  refine wp_name fun W hW => ?_
  have HX := Lib.hid (show BoxAt W w.heap.size [.int .i64 (d.blocks : Int), .int .i64 (d.size : Int), .slice la xs.length lc, .slice wa ys.length wc, .bool d.lit, .int .i64 d.after, .int .i64 d.torn, .int .i64 d.cut, .slice kaa d.keep.length kcc, .bool d.off, .int .i64 d.count] by rw [hW]; exact ((BoxAt.new w [_, _, _, _, _, _, _, _, _, _, _] _).alloc _).alloc _)
  have HY := Lib.hid (show BoxAt W (w.heap.size + 1) [.int .i64 kind, .int .i64 ai, .int .u8 (fill.toNat : Int), .bool short, .slice ka keep.length kc, .int .i64 torn, .int .i64 cut, .int .u32 (mask.toNat : Int)] by rw [hW]; exact (BoxAt.newAt _ _ (by simp) [_, _, _, _, _, _, _, _] _).alloc _)
  have HZ := Lib.hid (show BoxAt W (w.heap.size + 1 + 1) zeroD by rw [hW]; exact BoxAt.newAt _ _ (by simp) [_, _, _, _, _, _, _, _, _, _, _] _)
  have HB := Lib.hid (show Below w.heap.size w W by rw [hW]; go_grown)
  have hW3 : w.heap.size + 1 + 1 < W.heap.size := HZ.out.lt
  clear hW
  have HDW := Lib.hid (HD.out.below HF.out HB.out)
  have HRW := Lib.hid (show RefAt G W (.agg #[.int .i64 (d.blocks : Int), .int .i64 (d.size : Int), .slice la xs.length lc, .slice wa ys.length wc, .bool d.lit, .int .i64 d.after, .int .i64 d.torn, .int .i64 d.cut, .slice kaa d.keep.length kcc, .bool d.off, .int .i64 d.count]) d from (H.out.at).below HG.out HB.out)
  have HHW := Lib.hid (HG.out.more HB.out.size)
  have HFW := Lib.hid (HF.out.more HB.out.size)
  obtain ⟨x0, x1, x2, x3, x4, x5, x6, x7, x8, x9, x10⟩ := HX.out.eleven
  obtain ⟨m0, m1, m2, m3, m4, m5, m6, m7⟩ := HY.out.eight
  go_upto_region 9 with (go_at_call 94; (refine (refCorrupt4_to HRW.out HO.out HHW.out ai cut mask HE.out).mono ?_); (rintro e w2 ⟨⟨v2, rfl, hr2⟩, hb2⟩); (obtain ⟨lv2, wv2, kv2, xs2, ys2, rfl, h2⟩ := hr2); (obtain ⟨la2, lc2, wa2, wc2, ka2, kc2, rfl, rfl, rfl⟩ := h2.shape); (have H2 := Lib.hid h2); (have HB2 := Lib.hid hb2); (have HX2 := Lib.hid (HX.out.below hb2)); (have HY2 := Lib.hid (HY.out.below hb2)); (clear h2 hb2 m0 m1 m2 m3 m4 m5 m6 m7 x0 x1 x2 x3 x4 x5 x6 x7 x8 x9 x10); (obtain ⟨x0, x1, x2, x3, x4, x5, x6, x7, x8, x9, x10⟩ := HX2.out.eleven); (obtain ⟨m0, m1, m2, m3, m4, m5, m6, m7⟩ := HY2.out.eight); (unfold refD))
  refine wp_name fun V hV => ?_
  obtain ⟨nb, hnb⟩ : ∃ nb, w2.heap.size = nb := ⟨_, rfl⟩
  have hvb : BoxAt V nb [.int .i64 (E.blocks : Int), .int .i64 (E.size : Int), .slice la2 xs2.length lc2, .slice wa2 ys2.length wc2, .bool E.lit, .int .i64 E.after, .int .i64 E.torn, .int .i64 E.cut, .slice ka2 E.keep.length kc2, .bool E.off, .int .i64 E.count] ∧ Below w2.heap.size w2 V := by
    rw [hV]
    exact ⟨BoxAt.newAt _ _ hnb [_, _, _, _, _, _, _, _, _, _, _] _, (Below.refl _ _).alloc (Nat.le_refl _) _⟩
  have HV9 := Lib.hid hvb.1
  have HBV := Lib.hid hvb.2
  have HYV := Lib.hid (HY2.out.below hvb.2)
  have hnbW : W.heap.size ≤ nb := by rw [← hnb]; exact HB2.out.size
  rw [hnb]
  have HB3 := Lib.hid (below_step HB2.out HBV.out)
  clear hV hvb hnb m0 m1 m2 m3 m4 m5 m6 m7 x0 x1 x2 x3 x4 x5 x6 x7 x8 x9 x10
  have HDV := Lib.hid (HDW.out.below HFW.out HB3.out)
  have HFV := Lib.hid (HFW.out.more HB3.out.size)
  have HBWV := Lib.hid (HB.out.trans (HB3.out.mono HB.out.size))
  have hFlt : ∀ q, F q → q < w.heap.size := fun q hq => HF.out q hq
  have hFd : ∀ q, w.heap.size ≤ q → ¬ F q := fun q hq h => by have := hFlt q h; omega
  have HFD := Lib.hid hFd
  have HFL := Lib.hid hFlt
  have HVX := Lib.hid HV9.out
  clear hFlt
  obtain ⟨x0, x1, x2, x3, x4, x5, x6, x7, x8, x9, x10⟩ := HVX.out.eleven
  have hnbw : w.heap.size ≤ nb := by have := HB.out.size; omega
  have q0 := Far.dcell (w := V) (F := F) x0 (hFd nb hnbw)
  have q1 := Far.dcell (w := V) (F := F) x1 (hFd nb hnbw)
  have q2 := Far.dcell (w := V) (F := F) x2 (hFd nb hnbw)
  have q3 := Far.dcell (w := V) (F := F) x3 (hFd nb hnbw)
  have q4 := Far.dcell (w := V) (F := F) x4 (hFd nb hnbw)
  have q5 := Far.dcell (w := V) (F := F) x5 (hFd nb hnbw)
  have q6 := Far.dcell (w := V) (F := F) x6 (hFd nb hnbw)
  have q7 := Far.dcell (w := V) (F := F) x7 (hFd nb hnbw)
  have q8 := Far.dcell (w := V) (F := F) x8 (hFd nb hnbw)
  have q9 := Far.dcell (w := V) (F := F) x9 (hFd nb hnbw)
  have q10 := Far.dcell (w := V) (F := F) x10 (hFd nb hnbw)
  obtain ⟨m0, m1, m2, m3, m4, m5, m6, m7⟩ := HYV.out.eight
  have p0 := Far.dcell (w := V) (F := F) m0 (hFd (w.heap.size + 1) (by omega))
  have p1 := Far.dcell (w := V) (F := F) m1 (hFd (w.heap.size + 1) (by omega))
  have p2 := Far.dcell (w := V) (F := F) m2 (hFd (w.heap.size + 1) (by omega))
  have p3 := Far.dcell (w := V) (F := F) m3 (hFd (w.heap.size + 1) (by omega))
  have p4 := Far.dcell (w := V) (F := F) m4 (hFd (w.heap.size + 1) (by omega))
  have p5 := Far.dcell (w := V) (F := F) m5 (hFd (w.heap.size + 1) (by omega))
  have p6 := Far.dcell (w := V) (F := F) m6 (hFd (w.heap.size + 1) (by omega))
  have p7 := Far.dcell (w := V) (F := F) m7 (hFd (w.heap.size + 1) (by omega))
  refine wp_region_mix (fun w' => ∃ x : Far V.drew F, w' = x.world) [11] 13 (by kernel_rfl) rfl ?_
  refine mix_reads_lit [0, 1, 2, 3, 4, 5, 6, 7, 9] 4 (by kernel_rfl) (by kernel_rfl) (by kernel_rfl) (by kernel_rfl) rfl (FarC.of (Beside.refl _ _)) ?_
  simp only [pick, List.filterMap_cons, List.filterMap_nil, List.getElem?_cons_succ, List.getElem?_cons_zero]
  repeat (first | go_big_quiet_step (fail) | quiet_step (fail))
  refine wpQuiet_nil ?_
  refine mix_deed_lit 8 3 (by kernel_rfl) (by kernel_rfl) rfl (fun K hK => ?_)
  simp only [comesUp, List.getElem?_cons_succ, List.getElem?_cons_zero]
  refine if_mk rfl ?_
  go_simp
  refine (corrupt_to HDV.out.drew HO.out (fun q hq => HFV.out q hq) ai cut mask HE.out A ((HS.out V (Beside.of_below HBWV.out)).below (Below.refl _ _).drew)).mono ?_
  rintro e w4 ⟨F4, l4, v4, rfl, hE4, hd4, hb4, hg4⟩
  refine hK _ _ (fun _ _ => FarC.of hb4) ?_
  clear hK K
  have hb4' : Beside F V w4 := ⟨hb4.os, hb4.tape, hb4.output, hb4.size, hb4.block⟩
  have hg4' : ∀ q, F4 q → (F q ∨ V.heap.size ≤ q) ∧ q < w4.heap.size := fun q hq => hg4 q hq
  have hb0 : Beside F w w4 := (Beside.of_below HBWV.out).same hb4'
  have HZ4 := Lib.hid ((HZ.out.below HB3.out).beside hb4' (hFd _ (by omega)))
  have HSR := Lib.hid (HS.out w4 hb0)
  have HER := Lib.hid hE4
  have HDR := Lib.hid hd4
  have HBR := Lib.hid hb0
  have HG4R := Lib.hid hg4'
  have HB4 := Lib.hid hb4'
  clear hE4 hd4 hb4 hg4 hb4' hg4' hb0
  refine mix_deed_lit 10 2 (by kernel_rfl) (by kernel_rfl) rfl (fun K hK => ?_)
  simp only [comesUp, List.getElem?_cons_succ, List.getElem?_cons_zero]
  refine if_mk rfl ?_
  go_simp
  refine (tells04_any (w := w4) HSR.out l4 k _ HER.out _ rfl).mono ?_
  rintro e w5 ⟨rfl, rfl⟩
  refine hK _ _ (fun _ h => h) ?_
  clear hK K
  obtain ⟨fz0, fz1, fz2, fz3, fz4, fz5, fz6, fz7, fz8, fz9, fz10⟩ := HZ4.out.elevenF
  obtain ⟨z0, z1, z2, z3, z4, z5, z6, z7, z8, z9, z10⟩ := HZ4.out.eleven
  refine mix_deed_lit 11 1 (by kernel_rfl) (by kernel_rfl) rfl (fun K hK => ?_)
  simp only [comesUp, List.getElem?_cons_succ, List.getElem?_cons_zero]
  refine if_mk rfl ?_
  go_simp
  refine hK _ _ (fun h => by simp [keeps] at h) ?_
  clear hK K
  refine mix_flat_lit [12] 0 (by kernel_rfl) (by kernel_rfl) (by kernel_rfl) (by kernel_rfl) rfl ?_
  simp only [pick, List.filterMap_cons, List.filterMap_nil, List.getElem?_cons_succ, List.getElem?_cons_zero]
  repeat (first | go_big_quiet_step (fail) | quiet_step (fail))
  refine wpQuiet_nil ?_
  refine mix_done_lit (by kernel_rfl) ?_
  refine q_name fun U hU => ?_
  have hfv : BoxAt U (w.heap.size + 1 + 1) [.int .i64 (E.blocks : Int), .int .i64 (E.size : Int), .slice la2 xs2.length lc2, .slice wa2 ys2.length wc2, .bool E.lit, .int .i64 E.after, .int .i64 E.torn, .int .i64 E.cut, .slice ka2 E.keep.length kc2, .bool E.off, .int .i64 E.count] ∧ w4.grownBy U (some (w.heap.size + 1 + 1)) := by
    rw [hU]
    exact fill11 HZ4.out (.int .i64 (E.blocks : Int)) (.int .i64 (E.size : Int)) (.slice la2 xs2.length lc2) (.slice wa2 ys2.length wc2) (.bool E.lit) (.int .i64 E.after) (.int .i64 E.torn) (.int .i64 E.cut) (.slice ka2 E.keep.length kc2) (.bool E.off) (.int .i64 E.count)
  have HZU := Lib.hid hfv.1
  have HGU := Lib.hid hfv.2
  clear hU hfv x0 x1 x2 x3 x4 x5 x6 x7 x8 x9 x10 q0 q1 q2 q3 q4 q5 q6 q7 q8 q9 q10 m0 m1 m2 m3 m4 m5 m6 m7 p0 p1 p2 p3 p4 p5 p6 p7 fz0 fz1 fz2 fz3 fz4 fz5 fz6 fz7 fz8 fz9 fz10 z0 z1 z2 z3 z4 z5 z6 z7 z8 z9 z10 hFd
  obtain ⟨z0, z1, z2, z3, z4, z5, z6, z7, z8, z9, z10⟩ := HZU.out.eleven
  go_wp2_with fail
  refine bodyPost_ret (v := .tuple #[refD E (.slice la2 xs2.length lc2) (.slice wa2 ys2.length wc2) (.slice ka2 E.keep.length kc2), .bool true]) (by simp [results, Tryd.results80, go_sem, refD, z0, z1, z2, z3, z4, z5, z6, z7, z8, z9, z10]) rfl ?_
  have h2r : DiskR (More G W w2) w4 E (.slice la2 xs2.length lc2) (.slice wa2 ys2.length wc2) (.slice ka2 E.keep.length kc2) xs2 ys2 := H2.out.on fun q hq => by
    have hql : q < w2.heap.size ∧ ¬ F q := by
      have h0 := HB.out.size
      have h1 := HB2.out.size
      rcases hq with h | h
      · have := HG.out q h; exact ⟨by omega, HGF.out q h⟩
      · exact ⟨h.2, fun hf => by have := HFL.out q hf; omega⟩
    rw [HB4.out.block q (by have := HBV.out.size; omega) hql.2, HBV.out.block q hql.1]
  exact Stepped.fin HDR.out h2r HF.out HG.out HGF.out HG4R.out HBR.out ⟨by omega, by omega⟩ HB2.out.size HBV.out.size HB4.out.size HGU.out

end Go.Proofs.YtflbioiildndoaaDoor
