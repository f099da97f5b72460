/- the document's caches: write (printed by wip/tools/gen_refcwrite.py) -/
import Derived.Test.YtflbioiildndoaaGreatDoorQ11
namespace Go.Proofs.YtflbioiildndoaaGreatDoor
open Go.RowKit
set_option linter.unusedVariables false
set_option linter.unusedSimpArgs false

theorem refPut4_to8 {G : Nat → Prop} {w : World} {n : Nat} {d E : Bk.Disk} {k : Nat} {v : Value} (hr : RefAt G w v d) (ho : Bk.Ok n d) (hG : Held G w) (i : Int) (b : Bk.Blk) (hE : Bk.put d i b = (E, k)) (bv : Value) (hb : BytesAt w bv b) (hn : n ≤ 1000) :
    Calls Tryz.prog 31 #[v, .int .i64 i, bv] w fun e w' => GivesRC G w E k e w' ∧ Below w.heap.size w w' := by
  have := refPut4 hr ho hG i b bv hb hn
  rw [hE] at this
  exact this
/-- what a call of the document's leaves: a cache and a code -/
def GivesCK (G : Nat → Prop) (w : World) (C : Ch.Cache) (k : Nat) (e : Ending) (w' : World) : Prop := (∃ s, e = .returned (.tuple #[refCV C s, .int .i64 (k : Int)]) ∧ RefC (More G w w') w' C s) ∧ Below w.heap.size w w'
theorem GivesCK.fin {G G2 : Nat → Prop} {w V W : World} {C : Ch.Cache} {s : Shp} {k rb : Nat} (h : RefC G2 V C s) (hG2 : ∀ k, G2 k → (G k ∨ w.heap.size ≤ k) ∧ k < V.heap.size ∧ k ≠ rb) (hrw : w.heap.size ≤ rb) (hb : Below w.heap.size w V) (hg : V.grownBy W (some rb)) : GivesCK G w C k (.returned (.tuple #[refCV C s, .int .i64 (k : Int)])) W :=
  ⟨⟨s, rfl, (h.fin hG2 hrw hb hg).1⟩, (h.fin hG2 hrw hb hg).2⟩
/-- behind the write into the disk: where the disk was laid, and what it names -/
def CutR (G : Nat → Prop) (V : World) (E : Bk.Disk) (Z : World) (zb : Nat) (la wa ka : Option Addr) (lc wc kc : Nat) : Prop :=
  V.heap.size ≤ zb ∧ BoxAt Z zb [.int .i64 (E.blocks : Int), .int .i64 (E.size : Int), .slice la E.lasting.length lc, .slice wa E.waiting.length wc, .bool E.lit, .int .i64 E.after, .int .i64 E.torn, .int .i64 E.cut, .slice ka E.keep.length kc, .bool E.off, .int .i64 E.count] ∧
    (∃ (G2 : Nat → Prop) (xs : List Sl3) (ys : List (Int × Sl3)), DiskR G2 Z E (.slice la E.lasting.length lc) (.slice wa E.waiting.length wc) (.slice ka E.keep.length kc) xs ys ∧ ∀ k, G2 k → (G k ∨ V.heap.size ≤ k) ∧ k < Z.heap.size ∧ k ≠ zb) ∧ Below V.heap.size V Z

set_option maxRecDepth 100000 in
set_option maxHeartbeats 8000000 in
theorem refCwrite_is {G : Nat → Prop} {w : World} {n : Nat} {C D : Ch.Cache} {k : Nat} {s : Shp} (h : RefC G w C s) (hG : Held G w) (ho : Ch.Ok n C) (hn : n ≤ 1000) (i : Nat) (hi : i < C.slots.length) (hD : Ch.write C i = (D, k)) :
    Calls Tryz.prog 40 #[refCV C s, .int .i64 (i : Int)] w (GivesCK G w D k) := by
  obtain ⟨N, hN⟩ : ∃ N, C.slots.length = N := ⟨_, rfl⟩
  have hl := ho.len
  have hsok := ho.slot hi
  have H := Lib.hid h
  have HG := Lib.hid hG
  have HN := Lib.hid hN
  have HO := Lib.hid ho
  have HD := Lib.hid hD
  have HSV := Lib.hid (show ∀ x : SlotX, slotV x = .agg #[.int .i64 x.1.page.kind, .int .i64 x.1.page.id, .int .u64 (x.1.page.gen : Int), .slice x.2.1 x.1.page.body.length x.2.2, .bool x.1.full, .bool x.1.dirty, .bool x.1.used, .int .i64 x.1.pins] from fun _ => rfl)
  obtain ⟨b, o, ba, bc, hsa, e0, e1, e2, e3, e4, e5, e6, e7, hbs, hbg⟩ := h.slotAt hi
  obtain ⟨sa, sc, la, lc, wa, wq, ka, kc⟩ := s
  simp only at hsa
  subst hsa
  have HSLOT := Lib.hid (show Ch.slot C i = Ch.slot C i from rfl)
  obtain ⟨x, hx⟩ : ∃ x, Ch.slot C i = x := ⟨_, rfl⟩
  rw [hx] at e0 e1 e2 e3 e4 e5 e6 e7 hbs hbg hsok
  have HXX := Lib.hid hx
  obtain ⟨page, full, dirty, used, pins⟩ := x
  simp only at e0 e1 e2 e3 e4 e5 e6 e7 hbs hbg
  have HBG := Lib.hid hbg
  have HB0 := Lib.hid hbs
  have HSOK := Lib.hid hsok
  unfold refCV
  rw [hN] at hl hi ⊢
  have hi0 : (0 : Int) ≤ (i : Int) := by omega
  have hi1 : (i : Int) < (N : Int) := by omega
  have hwr := HD.out
  unfold Ch.write at hwr
  dsimp only at hwr
  rw [hx] at hwr
  simp only at hwr
  have HWR := Lib.hid hwr
  clear h hG hN ho hD hx hwr hbs hbg hsok HSLOT
  go_enter Tryz.func40, Tryz.ntmps40
  go_upto_region 1 with fail
  obtain ⟨nb, hnb⟩ : ∃ nb, w.heap.size = nb := ⟨_, rfl⟩
  refine wp_name fun W hW => ?_
  have HX := Lib.hid (show BoxAt W nb [.slice (some ⟨b, o, none⟩) N sc, .int .i64 (C.hand : Int), .int .i64 (C.disk.blocks : Int), .int .i64 (C.disk.size : Int), .slice la C.disk.lasting.length lc, .slice wa C.disk.waiting.length wq, .bool C.disk.lit, .int .i64 C.disk.after, .int .i64 C.disk.torn, .int .i64 C.disk.cut, .slice ka C.disk.keep.length kc, .bool C.disk.off, .int .i64 C.disk.count] by rw [hW]; exact (BoxAt.newAt _ _ hnb [_, _, _, _, _, _, _, _, _, _, _, _, _] _).alloc _)
  have HY := Lib.hid (show BoxAt W (nb + 1) zeroC by rw [hW]; exact BoxAt.newAt _ _ (by simp [hnb]) [_, _, _, _, _, _, _, _, _, _, _, _, _] _)
  have HB := Lib.hid (show Below w.heap.size w W by rw [hW]; go_grown)
  have HNB := Lib.hid hnb
  have hWs : W.heap.size = nb + 1 + 1 := by rw [hW]; simp [hnb]
  clear hW
  rw [hnb]
  clear hnb
  have HWS := Lib.hid hWs
  have hbl : b < w.heap.size := World.block_lt_of_cell? w _ e0
  have hcells := fun (q : Nat) (v : Value) (hv : w.cell? ⟨b, q, none⟩ = some v) => (HB.out.cell (p := ⟨b, q, none⟩) hbl).trans hv
  have g0 := hcells _ _ e0
  have g1 := hcells _ _ e1
  have g2 := hcells _ _ e2
  have g3 := hcells _ _ e3
  have g4 := hcells _ _ e4
  have g5 := hcells _ _ e5
  have g6 := hcells _ _ e6
  have g7 := hcells _ _ e7
  clear hcells hWs e0 e1 e2 e3 e4 e5 e6 e7
  have x0 := HX.out.at 0 _ rfl
  go_upto_region 2 with fail
  refine wp_name fun V hV => ?_
  have hbV : Below W.heap.size W V := by rw [hV]; exact (Below.refl _ _).alloc (Nat.le_refl _) _
  have HS := Lib.hid (show BoxAt V (nb + 1 + 1) [.int .i64 page.kind, .int .i64 page.id, .int .u64 (page.gen : Int), .slice ba page.body.length bc, .bool full, .bool dirty, .bool used, .int .i64 pins] by rw [hV]; exact BoxAt.newAt _ _ HWS.out [_, _, _, _, _, _, _, _] _)
  have HXV := Lib.hid (HX.out.below hbV)
  have HYV := Lib.hid (HY.out.below hbV)
  have HBV := Lib.hid (below_step HB.out hbV)
  have hVs : nb + 1 + 1 < V.heap.size := HS.out.lt
  clear hV hbV x0 g0 g1 g2 g3 g4 g5 g6 g7
  rw [HWS.out]
  obtain ⟨m0, m1, m2, m3, m4, m5, m6, m7⟩ := HS.out.eight
  have hwn := HNB.out
  cases full with
  | false =>
    have hD := HWR.out
    rw [if_neg (by simp)] at hD
    obtain ⟨rfl, rfl⟩ := Prod.mk.inj hD
    clear hD
    obtain ⟨x0, x1, x2, x3, x4, x5, x6, x7, x8, x9, x10, x11, x12⟩ := HXV.out.thirteen
    obtain ⟨y0, y1, y2, y3, y4, y5, y6, y7, y8, y9, y10, y11, y12⟩ := HYV.out.thirteen
    obtain ⟨f0, f1, f2, f3, f4, f5, f6, f7, f8, f9, f10, f11, f12⟩ := HYV.out.thirteenF
    go_wp2_with fail
    refine bodyPost_ret (v := .tuple #[refCV C ⟨some ⟨b, o, none⟩, sc, la, lc, wa, wq, ka, kc⟩, .int .i64 0]) (by simp [results, Tryz.results40, go_sem, refCV, HN.out, y0, y1, y2, y3, y4, y5, y6, y7, y8, y9, y10, y11, y12]) rfl ?_
    exact GivesCK.fin (G2 := G) (V := V) (rb := nb + 1) (H.out.below HG.out HBV.out) (fun k hk => by have := HG.out k hk; exact ⟨.inl hk, by omega, by omega⟩) (by omega) HBV.out (grown13 V (nb + 1) _ _ _ _ _ _ _ _ _ _ _ _ _)
  | true =>
  cases dirty with
  | false =>
    have hD := HWR.out
    rw [if_neg (by simp)] at hD
    obtain ⟨rfl, rfl⟩ := Prod.mk.inj hD
    clear hD
    obtain ⟨x0, x1, x2, x3, x4, x5, x6, x7, x8, x9, x10, x11, x12⟩ := HXV.out.thirteen
    obtain ⟨y0, y1, y2, y3, y4, y5, y6, y7, y8, y9, y10, y11, y12⟩ := HYV.out.thirteen
    obtain ⟨f0, f1, f2, f3, f4, f5, f6, f7, f8, f9, f10, f11, f12⟩ := HYV.out.thirteenF
    go_wp2_with fail
    refine bodyPost_ret (v := .tuple #[refCV C ⟨some ⟨b, o, none⟩, sc, la, lc, wa, wq, ka, kc⟩, .int .i64 0]) (by simp [results, Tryz.results40, go_sem, refCV, HN.out, y0, y1, y2, y3, y4, y5, y6, y7, y8, y9, y10, y11, y12]) rfl ?_
    exact GivesCK.fin (G2 := G) (V := V) (rb := nb + 1) (H.out.below HG.out HBV.out) (fun k hk => by have := HG.out k hk; exact ⟨.inl hk, by omega, by omega⟩) (by omega) HBV.out (grown13 V (nb + 1) _ _ _ _ _ _ _ _ _ _ _ _ _)
  | true =>
  obtain ⟨SL, hSL⟩ : ∃ SL, Pg.sealL page C.disk.size = SL := ⟨_, rfl⟩
  obtain ⟨E, kk, hE⟩ : ∃ E kk, Bk.put C.disk page.id SL = (E, kk) := ⟨_, _, rfl⟩
  have hD := HWR.out
  rw [if_pos (by simp), hSL, hE] at hD
  obtain ⟨hD1, hD2⟩ := Prod.mk.inj hD
  simp only at hD1 hD2
  subst hD2
  have HD1 := Lib.hid hD1
  have HE := Lib.hid hE
  have HSL := Lib.hid hSL
  have HCK := Lib.hid (HSOK.out.2.2 rfl)
  have HGN := Lib.hid HSOK.out.1
  clear hD hD1 hE hSL HWR HD
  have HBS := Lib.hid (HB0.out.below HBV.out)
  have HGV := Lib.hid (HG.out.more HBV.out.size)
  have HCV := Lib.hid (H.out.below HG.out HBV.out)
  have HRV := Lib.hid (show RefAt G V (.agg #[.int .i64 (C.disk.blocks : Int), .int .i64 (C.disk.size : Int), .slice la C.disk.lasting.length lc, .slice wa C.disk.waiting.length wq, .bool C.disk.lit, .int .i64 C.disk.after, .int .i64 C.disk.torn, .int .i64 C.disk.cut, .slice ka C.disk.keep.length kc, .bool C.disk.off, .int .i64 C.disk.count]) C.disk from HCV.out.diskAt)
  obtain ⟨x0, x1, x2, x3, x4, x5, x6, x7, x8, x9, x10, x11, x12⟩ := HXV.out.thirteen
  go_upto_region 4 with fail
  go_cut [7, 8] (fun v u wx => ∃ (zb : Nat) (la2 wa2 ka2 : Option Addr) (lc2 wc2 kc2 : Nat), v = .pointer (some ⟨zb, 0, none⟩) ∧ u = .int .i64 (kk : Int) ∧ CutR G V E wx zb la2 wa2 ka2 lc2 wc2 kc2)
  case first =>
    have b0 : Below V.heap.size V V.drew := (Below.refl _ _).drew
    have p2 := Near.cell (w := V.drew) (row := none) (show V.drew.cell? ⟨nb, 2, none⟩ = _ from x2) (by simp)
    have p3 := Near.cell (w := V.drew) (row := none) (show V.drew.cell? ⟨nb, 3, none⟩ = _ from x3) (by simp)
    have p4 := Near.cell (w := V.drew) (row := none) (show V.drew.cell? ⟨nb, 4, none⟩ = _ from x4) (by simp)
    have p5 := Near.cell (w := V.drew) (row := none) (show V.drew.cell? ⟨nb, 5, none⟩ = _ from x5) (by simp)
    have p6 := Near.cell (w := V.drew) (row := none) (show V.drew.cell? ⟨nb, 6, none⟩ = _ from x6) (by simp)
    have p7 := Near.cell (w := V.drew) (row := none) (show V.drew.cell? ⟨nb, 7, none⟩ = _ from x7) (by simp)
    have p8 := Near.cell (w := V.drew) (row := none) (show V.drew.cell? ⟨nb, 8, none⟩ = _ from x8) (by simp)
    have p9 := Near.cell (w := V.drew) (row := none) (show V.drew.cell? ⟨nb, 9, none⟩ = _ from x9) (by simp)
    have p10 := Near.cell (w := V.drew) (row := none) (show V.drew.cell? ⟨nb, 10, none⟩ = _ from x10) (by simp)
    have p11 := Near.cell (w := V.drew) (row := none) (show V.drew.cell? ⟨nb, 11, none⟩ = _ from x11) (by simp)
    have p12 := Near.cell (w := V.drew) (row := none) (show V.drew.cell? ⟨nb, 12, none⟩ = _ from x12) (by simp)
    have q0 := Near.cell (w := V.drew) (row := none) (show V.drew.cell? ⟨nb + 1 + 1, 0, none⟩ = _ from m0) (by simp)
    have q1 := Near.cell (w := V.drew) (row := none) (show V.drew.cell? ⟨nb + 1 + 1, 1, none⟩ = _ from m1) (by simp)
    have q2 := Near.cell (w := V.drew) (row := none) (show V.drew.cell? ⟨nb + 1 + 1, 2, none⟩ = _ from m2) (by simp)
    have q3 := Near.cell (w := V.drew) (row := none) (show V.drew.cell? ⟨nb + 1 + 1, 3, none⟩ = _ from m3) (by simp)
    refine wp_region_mix (fun w' => ∃ x : Near V.drew none, w' = x.world) [17] 19 (by kernel_rfl) rfl ?_
    refine mix_reads_lit [0, 1, 2, 3, 4, 5, 6, 7, 8, 9, 10] 8 (by kernel_rfl) (by kernel_rfl) (by kernel_rfl) (by kernel_rfl) rfl (NearC.of (World.grownBy.refl _ _)) ?_
    simp only [pick, List.filterMap_cons, List.filterMap_nil, List.getElem?_cons_succ, List.getElem?_cons_zero]
    repeat (first | go_big_quiet_step (fail) | quiet_step (fail))
    refine wpQuiet_nil ?_
    clear p2 p3 p4 p5 p6 p7 p8 p9 p10 p11 p12 q0 q1 q2 q3 x0 x1 x2 x3 x4 x5 x6 x7 x8 x9 x10 x11 x12 m0 m1 m2 m3 m4 m5 m6 m7
    refine mix_two_lit 11 16 7 (by kernel_rfl) (by kernel_rfl) rfl (fun K hK => ?_) (fun K hK => ?_)
    · simp only [comesUp, List.getElem?_cons_succ, List.getElem?_cons_zero]
      refine if_mk rfl ?_
      go_simp
      refine (refSeal_ok page ba bc C.disk.size V.drew (HBS.out.below b0) HCK.out HGN.out).mono ?_
      rintro e u1 ⟨⟨a1, c1, rfl, ho1⟩, hb1⟩
      rw [HSL.out] at ho1 ⊢
      have b1 : Below V.heap.size V u1 := below_step b0 hb1
      have hby1 := ho1.bytes
      have hsq := hb1.size
      have bd1 : Below V.heap.size V.drew u1 := ⟨b1.os, b1.tape, b1.output, b1.size, b1.block⟩
      refine hK _ _ (fun _ _ => NearC.of (grown_of_below bd1 (Nat.le_refl _) _)) ?_
      clear hK K
      refine mix_two_lit 12 16 6 (by kernel_rfl) (by kernel_rfl) rfl (fun K hK => ?_) (fun K hK => ?_)
      · simp only [comesUp, List.getElem?_cons_succ, List.getElem?_cons_zero]
        refine if_mk rfl ?_
        go_simp
        refine (refPut4_to8 (HRV.out.below HGV.out b1) HO.out.disk (HGV.out.more b1.size) page.id SL HE.out _ hby1 hn).mono ?_
        rintro e u2 ⟨⟨v2, rfl, hr2⟩, hb2⟩
        obtain ⟨lv2, wv2, kv2, xs2, ys2, rfl, h2⟩ := hr2
        obtain ⟨la2, lc2, wa2, wc2, ka2, kc2, rfl, rfl, rfl⟩ := h2.shape
        have e21 := h2.xlen
        have e22 := h2.ylen
        rw [e21, e22] at h2 ⊢
        clear e21 e22
        have b2 : Below V.heap.size V u2 := below_step b1 hb2
        unfold refD
        have hsp0 := b1.size
        have hsp1 := hb2.size
        have bd2 : Below V.heap.size V.drew u2 := ⟨b2.os, b2.tape, b2.output, b2.size, b2.block⟩
        refine hK _ _ (fun _ _ => NearC.of (grown_of_below bd2 (Nat.le_refl _) _)) ?_
        clear hK K
        refine mix_reads_lit [13, 14, 15] 3 (by kernel_rfl) (by kernel_rfl) (by kernel_rfl) (by kernel_rfl) rfl (NearC.of (grown_of_below bd2 (Nat.le_refl _) _)) ?_
        simp only [pick, List.filterMap_cons, List.filterMap_nil, List.getElem?_cons_succ, List.getElem?_cons_zero]
        repeat (first | go_big_quiet_step (fail) | quiet_step (fail))
        refine wpQuiet_nil ?_
        refine mix_deed_lit 16 2 (by kernel_rfl) (by kernel_rfl) rfl (fun K hK => ?_)
        simp only [comesUp, List.getElem?_cons_succ, List.getElem?_cons_zero]
        refine if_mk rfl ?_
        go_simp
        obtain ⟨zb, hzb⟩ : ∃ zb, u2.heap.size = zb := ⟨_, rfl⟩
        obtain ⟨u3, hw3⟩ : ∃ z, z = u2.alloc (.cells #[.int .i64 0, .int .i64 0, .slice none 0 0, .slice none 0 0, .bool false, .int .i64 0, .int .i64 0, .int .i64 0, .slice none 0 0, .bool false, .int .i64 0] 36) := ⟨_, rfl⟩
        rw [hzb, ← hw3]
        have hz3 : BoxAt u3 zb zeroD := by rw [hw3]; exact BoxAt.newAt _ _ (show u2.heap.size = zb from hzb) [_, _, _, _, _, _, _, _, _, _, _] _
        have hba3 : Below u2.heap.size u2 u3 := by rw [hw3]; exact (Below.refl _ _).alloc (Nat.le_refl _) _
        have b3 : Below V.heap.size V u3 := below_step b2 hba3
        have hzu := b2.size
        have hzl := hz3.lt
        clear hw3
        have h2a := h2.on (w' := u3) fun k hk => hba3.block k (hk.elim (fun hk => by have := HGV.out k hk; have := b2.size; omega) (fun hk => hk.2))
        have bd3 : Below V.heap.size V.drew u3 := ⟨b3.os, b3.tape, b3.output, b3.size, b3.block⟩
        refine hK _ _ (fun _ _ => NearC.of (grown_of_below bd3 (Nat.le_refl _) _)) ?_
        clear hK K
        obtain ⟨z0, z1, z2, z3, z4, z5, z6, z7, z8, z9, z10⟩ := hz3.eleven
        obtain ⟨f0, f1, f2, f3, f4, f5, f6, f7, f8, f9, f10⟩ := hz3.elevenF
        refine mix_deed_lit 17 1 (by kernel_rfl) (by kernel_rfl) rfl (fun K hK => ?_)
        simp only [comesUp, List.getElem?_cons_succ, List.getElem?_cons_zero]
        refine if_mk rfl ?_
        go_simp
        refine hK _ _ (fun h => by simp [keeps] at h) ?_
        clear hK K z0 z1 z2 z3 z4 z5 z6 z7 z8 z9 z10 f0 f1 f2 f3 f4 f5 f6 f7 f8 f9 f10
        refine mix_flat_lit [18] 0 (by kernel_rfl) (by kernel_rfl) (by kernel_rfl) (by kernel_rfl) rfl ?_
        simp only [pick, List.filterMap_cons, List.filterMap_nil, List.getElem?_cons_succ, List.getElem?_cons_zero]
        repeat (first | go_big_quiet_step (fail) | quiet_step (fail))
        refine wpQuiet_nil ?_
        refine mix_done_lit (by kernel_rfl) ?_
        refine q_name fun Z hZ => ?_
        have hf := fill11 hz3 (.int .i64 (E.blocks : Int)) (.int .i64 (E.size : Int)) (.slice la2 E.lasting.length lc2) (.slice wa2 E.waiting.length wc2) (.bool E.lit) (.int .i64 E.after) (.int .i64 E.torn) (.int .i64 E.cut) (.slice ka2 E.keep.length kc2) (.bool E.off) (.int .i64 E.count)
        rw [← hZ] at hf
        clear hZ
        have hzV : V.heap.size ≤ zb := by omega
        have hbZ : Below V.heap.size V Z := b3.trans (below_of_grown hf.2 hzV b3.size)
        have hGk : ∀ k, More G u1 u2 k → (G k ∨ V.heap.size ≤ k) ∧ k < u3.heap.size ∧ k ≠ zb := fun k hk => by
          rcases hk with hk | hk
          · have := HGV.out k hk; exact ⟨.inl hk, by omega, by omega⟩
          · exact ⟨.inr (by omega), by omega, by omega⟩
        have hdZ := h2a.on (w' := Z) fun k hk => hf.2.block k (hGk k hk).2.1 (by intro e; cases e; exact (hGk _ hk).2.2 rfl)
        have HFIN := Lib.hid (show CutR G V E Z zb la2 wa2 ka2 lc2 wc2 kc2 from ⟨hzV, hf.1, ⟨_, xs2, ys2, hdZ, fun k hk => ⟨(hGk k hk).1, Nat.lt_of_lt_of_le (hGk k hk).2.1 hf.2.size, (hGk k hk).2.2⟩⟩, hbZ⟩)
        go_wp2_with fail
        go_meet
        exact ⟨zb, _, _, _, _, _, _, rfl, rfl, HFIN.out⟩
      · simp only [comesUp, List.getElem?_cons_succ, List.getElem?_cons_zero]
        refine if_mk rfl ?_
        go_simp
        obtain ⟨zb, hzb⟩ : ∃ zb, u1.heap.size = zb := ⟨_, rfl⟩
        obtain ⟨u2, hw2⟩ : ∃ z, z = u1.alloc (.cells #[.int .i64 0, .int .i64 0, .slice none 0 0, .slice none 0 0, .bool false, .int .i64 0, .int .i64 0, .int .i64 0, .slice none 0 0, .bool false, .int .i64 0] 36) := ⟨_, rfl⟩
        rw [hzb, ← hw2]
        have hz2 : BoxAt u2 zb zeroD := by rw [hw2]; exact BoxAt.newAt _ _ (show u1.heap.size = zb from hzb) [_, _, _, _, _, _, _, _, _, _, _] _
        have hba2 : Below u1.heap.size u1 u2 := by rw [hw2]; exact (Below.refl _ _).alloc (Nat.le_refl _) _
        have b2 : Below V.heap.size V u2 := below_step b1 hba2
        have hzu := b1.size
        have hzl := hz2.lt
        clear hw2
        have hby2 := hby1.below hba2
        have bd2 : Below V.heap.size V.drew u2 := ⟨b2.os, b2.tape, b2.output, b2.size, b2.block⟩
        refine hK _ _ (fun _ _ => NearC.of (grown_of_below bd2 (Nat.le_refl _) _)) ?_
        clear hK K
        refine mix_deed_lit 12 5 (by kernel_rfl) (by kernel_rfl) rfl (fun K hK => ?_)
        simp only [comesUp, List.getElem?_cons_succ, List.getElem?_cons_zero]
        refine if_mk rfl ?_
        go_simp
        refine (refPut4_to8 (HRV.out.below HGV.out b2) HO.out.disk (HGV.out.more b2.size) page.id SL HE.out _ hby2 hn).mono ?_
        rintro e u3 ⟨⟨v2, rfl, hr2⟩, hb3⟩
        obtain ⟨lv2, wv2, kv2, xs2, ys2, rfl, h2⟩ := hr2
        obtain ⟨la2, lc2, wa2, wc2, ka2, kc2, rfl, rfl, rfl⟩ := h2.shape
        have e21 := h2.xlen
        have e22 := h2.ylen
        rw [e21, e22] at h2 ⊢
        clear e21 e22
        have b3 : Below V.heap.size V u3 := below_step b2 hb3
        unfold refD
        have hsp0 := b2.size
        have hsp1 := hb3.size
        have hzp3 := hz2.below hb3
        have bd3 : Below V.heap.size V.drew u3 := ⟨b3.os, b3.tape, b3.output, b3.size, b3.block⟩
        refine hK _ _ (fun _ _ => NearC.of (grown_of_below bd3 (Nat.le_refl _) _)) ?_
        clear hK K
        refine mix_reads_lit [13, 14, 15] 2 (by kernel_rfl) (by kernel_rfl) (by kernel_rfl) (by kernel_rfl) rfl (NearC.of (grown_of_below bd3 (Nat.le_refl _) _)) ?_
        simp only [pick, List.filterMap_cons, List.filterMap_nil, List.getElem?_cons_succ, List.getElem?_cons_zero]
        repeat (first | go_big_quiet_step (fail) | quiet_step (fail))
        refine wpQuiet_nil ?_
        obtain ⟨z0, z1, z2, z3, z4, z5, z6, z7, z8, z9, z10⟩ := hzp3.eleven
        obtain ⟨f0, f1, f2, f3, f4, f5, f6, f7, f8, f9, f10⟩ := hzp3.elevenF
        refine mix_deed_lit 17 1 (by kernel_rfl) (by kernel_rfl) rfl (fun K hK => ?_)
        simp only [comesUp, List.getElem?_cons_succ, List.getElem?_cons_zero]
        refine if_mk rfl ?_
        go_simp
        refine hK _ _ (fun h => by simp [keeps] at h) ?_
        clear hK K z0 z1 z2 z3 z4 z5 z6 z7 z8 z9 z10 f0 f1 f2 f3 f4 f5 f6 f7 f8 f9 f10
        refine mix_flat_lit [18] 0 (by kernel_rfl) (by kernel_rfl) (by kernel_rfl) (by kernel_rfl) rfl ?_
        simp only [pick, List.filterMap_cons, List.filterMap_nil, List.getElem?_cons_succ, List.getElem?_cons_zero]
        repeat (first | go_big_quiet_step (fail) | quiet_step (fail))
        refine wpQuiet_nil ?_
        refine mix_done_lit (by kernel_rfl) ?_
        refine q_name fun Z hZ => ?_
        have hf := fill11 hzp3 (.int .i64 (E.blocks : Int)) (.int .i64 (E.size : Int)) (.slice la2 E.lasting.length lc2) (.slice wa2 E.waiting.length wc2) (.bool E.lit) (.int .i64 E.after) (.int .i64 E.torn) (.int .i64 E.cut) (.slice ka2 E.keep.length kc2) (.bool E.off) (.int .i64 E.count)
        rw [← hZ] at hf
        clear hZ
        have hzV : V.heap.size ≤ zb := by omega
        have hbZ : Below V.heap.size V Z := b3.trans (below_of_grown hf.2 hzV b3.size)
        have hGk : ∀ k, More G u2 u3 k → (G k ∨ V.heap.size ≤ k) ∧ k < u3.heap.size ∧ k ≠ zb := fun k hk => by
          rcases hk with hk | hk
          · have := HGV.out k hk; exact ⟨.inl hk, by omega, by omega⟩
          · exact ⟨.inr (by omega), by omega, by omega⟩
        have hdZ := h2.on (w' := Z) fun k hk => hf.2.block k (hGk k hk).2.1 (by intro e; cases e; exact (hGk _ hk).2.2 rfl)
        have HFIN := Lib.hid (show CutR G V E Z zb la2 wa2 ka2 lc2 wc2 kc2 from ⟨hzV, hf.1, ⟨_, xs2, ys2, hdZ, fun k hk => ⟨(hGk k hk).1, Nat.lt_of_lt_of_le (hGk k hk).2.1 hf.2.size, (hGk k hk).2.2⟩⟩, hbZ⟩)
        go_wp2_with fail
        go_meet
        exact ⟨zb, _, _, _, _, _, _, rfl, rfl, HFIN.out⟩
    · simp only [comesUp, List.getElem?_cons_succ, List.getElem?_cons_zero]
      refine if_mk rfl ?_
      go_simp
      obtain ⟨zb, hzb⟩ : ∃ zb, V.heap.size = zb := ⟨_, rfl⟩
      obtain ⟨u1, hw1⟩ : ∃ z, z = (V.alloc (.cells #[.int .i64 0, .int .i64 0, .slice none 0 0, .slice none 0 0, .bool false, .int .i64 0, .int .i64 0, .int .i64 0, .slice none 0 0, .bool false, .int .i64 0] 36)).drew := ⟨_, rfl⟩
      rw [hzb, ← hw1]
      have hz1 : BoxAt u1 zb zeroD := by rw [hw1]; exact BoxAt.on (w := V.alloc _) (BoxAt.newAt V _ hzb [_, _, _, _, _, _, _, _, _, _, _] _) rfl
      have hba1 : Below V.drew.heap.size V.drew u1 := by rw [hw1]; exact (fun h0 : Below V.heap.size V (V.alloc _) => (⟨h0.os, h0.tape, h0.output, h0.size, h0.block⟩ : Below V.drew.heap.size V.drew (V.alloc _).drew)) ((Below.refl _ _).alloc (Nat.le_refl _) _)
      have b1 : Below V.heap.size V u1 := below_step b0 hba1
      have hzu := b0.size
      have hzl := hz1.lt
      clear hw1
      have bd1 : Below V.heap.size V.drew u1 := ⟨b1.os, b1.tape, b1.output, b1.size, b1.block⟩
      refine hK _ _ (fun _ _ => NearC.of (grown_of_below bd1 (Nat.le_refl _) _)) ?_
      clear hK K
      refine mix_deed_lit 11 6 (by kernel_rfl) (by kernel_rfl) rfl (fun K hK => ?_)
      simp only [comesUp, List.getElem?_cons_succ, List.getElem?_cons_zero]
      refine if_mk rfl ?_
      go_simp
      refine (refSeal_ok page ba bc C.disk.size u1 (HBS.out.below b1) HCK.out HGN.out).mono ?_
      rintro e u2 ⟨⟨a1, c1, rfl, ho1⟩, hb2⟩
      rw [HSL.out] at ho1 ⊢
      have b2 : Below V.heap.size V u2 := below_step b1 hb2
      have hby2 := ho1.bytes
      have hsq := hb2.size
      have hzp2 := hz1.below hb2
      have bd2 : Below V.heap.size V.drew u2 := ⟨b2.os, b2.tape, b2.output, b2.size, b2.block⟩
      refine hK _ _ (fun _ _ => NearC.of (grown_of_below bd2 (Nat.le_refl _) _)) ?_
      clear hK K
      refine mix_deed_lit 12 5 (by kernel_rfl) (by kernel_rfl) rfl (fun K hK => ?_)
      simp only [comesUp, List.getElem?_cons_succ, List.getElem?_cons_zero]
      refine if_mk rfl ?_
      go_simp
      refine (refPut4_to8 (HRV.out.below HGV.out b2) HO.out.disk (HGV.out.more b2.size) page.id SL HE.out _ hby2 hn).mono ?_
      rintro e u3 ⟨⟨v2, rfl, hr2⟩, hb3⟩
      obtain ⟨lv2, wv2, kv2, xs2, ys2, rfl, h2⟩ := hr2
      obtain ⟨la2, lc2, wa2, wc2, ka2, kc2, rfl, rfl, rfl⟩ := h2.shape
      have e21 := h2.xlen
      have e22 := h2.ylen
      rw [e21, e22] at h2 ⊢
      clear e21 e22
      have b3 : Below V.heap.size V u3 := below_step b2 hb3
      unfold refD
      have hsp0 := b2.size
      have hsp1 := hb3.size
      have hzp3 := hzp2.below hb3
      have bd3 : Below V.heap.size V.drew u3 := ⟨b3.os, b3.tape, b3.output, b3.size, b3.block⟩
      refine hK _ _ (fun _ _ => NearC.of (grown_of_below bd3 (Nat.le_refl _) _)) ?_
      clear hK K
      refine mix_reads_lit [13, 14, 15] 2 (by kernel_rfl) (by kernel_rfl) (by kernel_rfl) (by kernel_rfl) rfl (NearC.of (grown_of_below bd3 (Nat.le_refl _) _)) ?_
      simp only [pick, List.filterMap_cons, List.filterMap_nil, List.getElem?_cons_succ, List.getElem?_cons_zero]
      repeat (first | go_big_quiet_step (fail) | quiet_step (fail))
      refine wpQuiet_nil ?_
      obtain ⟨z0, z1, z2, z3, z4, z5, z6, z7, z8, z9, z10⟩ := hzp3.eleven
      obtain ⟨f0, f1, f2, f3, f4, f5, f6, f7, f8, f9, f10⟩ := hzp3.elevenF
      refine mix_deed_lit 17 1 (by kernel_rfl) (by kernel_rfl) rfl (fun K hK => ?_)
      simp only [comesUp, List.getElem?_cons_succ, List.getElem?_cons_zero]
      refine if_mk rfl ?_
      go_simp
      refine hK _ _ (fun h => by simp [keeps] at h) ?_
      clear hK K z0 z1 z2 z3 z4 z5 z6 z7 z8 z9 z10 f0 f1 f2 f3 f4 f5 f6 f7 f8 f9 f10
      refine mix_flat_lit [18] 0 (by kernel_rfl) (by kernel_rfl) (by kernel_rfl) (by kernel_rfl) rfl ?_
      simp only [pick, List.filterMap_cons, List.filterMap_nil, List.getElem?_cons_succ, List.getElem?_cons_zero]
      repeat (first | go_big_quiet_step (fail) | quiet_step (fail))
      refine wpQuiet_nil ?_
      refine mix_done_lit (by kernel_rfl) ?_
      refine q_name fun Z hZ => ?_
      have hf := fill11 hzp3 (.int .i64 (E.blocks : Int)) (.int .i64 (E.size : Int)) (.slice la2 E.lasting.length lc2) (.slice wa2 E.waiting.length wc2) (.bool E.lit) (.int .i64 E.after) (.int .i64 E.torn) (.int .i64 E.cut) (.slice ka2 E.keep.length kc2) (.bool E.off) (.int .i64 E.count)
      rw [← hZ] at hf
      clear hZ
      have hzV : V.heap.size ≤ zb := by omega
      have hbZ : Below V.heap.size V Z := b3.trans (below_of_grown hf.2 hzV b3.size)
      have hGk : ∀ k, More G u2 u3 k → (G k ∨ V.heap.size ≤ k) ∧ k < u3.heap.size ∧ k ≠ zb := fun k hk => by
        rcases hk with hk | hk
        · have := HGV.out k hk; exact ⟨.inl hk, by omega, by omega⟩
        · exact ⟨.inr (by omega), by omega, by omega⟩
      have hdZ := h2.on (w' := Z) fun k hk => hf.2.block k (hGk k hk).2.1 (by intro e; cases e; exact (hGk _ hk).2.2 rfl)
      have HFIN := Lib.hid (show CutR G V E Z zb la2 wa2 ka2 lc2 wc2 kc2 from ⟨hzV, hf.1, ⟨_, xs2, ys2, hdZ, fun k hk => ⟨(hGk k hk).1, Nat.lt_of_lt_of_le (hGk k hk).2.1 hf.2.size, (hGk k hk).2.2⟩⟩, hbZ⟩)
      go_wp2_with fail
      go_meet
      exact ⟨zb, _, _, _, _, _, _, rfl, rfl, HFIN.out⟩
  case rest =>
    obtain ⟨zb, la2, wa2, ka2, lc2, wc2, kc2, rfl, rfl, hzV, hz, ⟨G2, xs2, ys2, hd2, hG2⟩, hb2⟩ := hcut
    clear x0 x1 x2 x3 x4 x5 x6 x7 x8 x9 x10 x11 x12 m0 m1 m2 m3 m4 m5 m6 m7
    have HSC := Lib.hid (HS.out.below hb2)
    have HXC := Lib.hid (HXV.out.below hb2)
    have HYC := Lib.hid (HYV.out.below hb2)
    have HZC := Lib.hid hz
    have HDC := Lib.hid hd2
    have HBC := Lib.hid (below_step HBV.out hb2)
    have hVc : V.heap.size ≤ wc.heap.size := hb2.size
    clear hz hd2 hb2
    obtain ⟨m0, m1, m2, m3, m4, m5, m6, m7⟩ := HSC.out.eight
    have fm5 := HSC.out.free 5 _ rfl
    by_cases hk0 : kk = 0
    · subst hk0
      have hDe := HD1.out
      rw [show decide ((0 : Nat) ≠ 0) = false by decide] at hDe
      subst hDe
      go_upto_region 7 with fail
      refine wp_name fun V5 hV5 => ?_
      have hg5 : wc.grownBy V5 (some (nb + 1 + 1)) := by rw [hV5]; exact grownBy_set (World.grownBy.refl _ _) 5 _
      have hS5 : BoxAt V5 (nb + 1 + 1) [.int .i64 page.kind, .int .i64 page.id, .int .u64 (page.gen : Int), .slice ba page.body.length bc, .bool true, .bool false, .bool used, .int .i64 pins] := by rw [hV5]; exact HSC.out.put 5 (.bool false)
      have hX5 := HXC.out.grownR hg5 (by intro e; have := Option.some.inj e; omega)
      have hY5 := HYC.out.grownR hg5 (by intro e; have := Option.some.inj e; omega)
      have hZ5 := HZC.out.grownR hg5 (by intro e; have := Option.some.inj e; omega)
      have hB5 : Below w.heap.size w V5 := HBC.out.trans (below_of_grown hg5 (by omega) HBC.out.size)
      have hD5 := HDC.out.on (w' := V5) fun k hk => hg5.block k (hG2 k hk).2.1 (by
        intro e; cases e
        rcases (hG2 _ hk).1 with q | q
        · have := HG.out _ q; omega
        · omega)
      have hsz5 := hg5.size
      clear hV5 hg5 m0 m1 m2 m3 m4 m5 m6 m7 fm5
      have HS5 := Lib.hid (show BoxAt V5 (nb + 1 + 1) [.int .i64 page.kind, .int .i64 page.id, .int .u64 (page.gen : Int), .slice ba page.body.length bc, .bool true, .bool false, .bool used, .int .i64 pins] from hS5)
      have HX5 := Lib.hid (show BoxAt V5 nb _ from hX5)
      have HY5 := Lib.hid (show BoxAt V5 (nb + 1) zeroC from hY5)
      have HZ5 := Lib.hid (show BoxAt V5 zb _ from hZ5)
      have HB5 := Lib.hid (show Below w.heap.size w V5 from hB5)
      have HD5 := Lib.hid (show DiskR G2 V5 E _ _ _ xs2 ys2 from hD5)
      clear hS5 hX5 hY5 hZ5 hB5 hD5
      have hs5 : zb < V5.heap.size := HZ5.out.lt
      obtain ⟨x0, x1, x2, x3, x4, x5, x6, x7, x8, x9, x10, x11, x12⟩ := HX5.out.thirteen
      obtain ⟨m0, m1, m2, m3, m4, m5, m6, m7⟩ := HS5.out.eight
      have HSET := Lib.hid (show Calls Tryz.prog 61 #[.agg #[.slice (some ⟨b, o, none⟩) N sc, .int .i64 (C.hand : Int), .int .i64 (C.disk.blocks : Int), .int .i64 (C.disk.size : Int), .slice la C.disk.lasting.length lc, .slice wa C.disk.waiting.length wq, .bool C.disk.lit, .int .i64 C.disk.after, .int .i64 C.disk.torn, .int .i64 C.disk.cut, .slice ka C.disk.keep.length kc, .bool C.disk.off, .int .i64 C.disk.count], .int .i64 (i : Int), .agg #[.int .i64 page.kind, .int .i64 page.id, .int .u64 (page.gen : Int), .slice ba page.body.length bc, .bool true, .bool false, .bool used, .int .i64 pins]] V5 (GivesC G V5 (Ch.set C i ⟨page, true, false, used, pins⟩)) by
        have hh := refCset_is (H.out.below HG.out HB5.out) (HG.out.more HB5.out.size) (by rw [HN.out]; exact hl.2) i (by rw [HN.out]; exact hi) (⟨page, true, false, used, pins⟩, ba, bc) (HB0.out.below HB5.out) HBG.out
        unfold refCV slotV at hh
        rw [HN.out] at hh
        exact hh)
      go_upto_region 8 with (go_at_call 61; (refine HSET.out.mono ?_); (rintro e w6 ⟨⟨⟨sa6, sc6, la6, lc6, wa6, wq6, ka6, kc6⟩, rfl, h6⟩, hb6⟩); (have H6 := Lib.hid h6); (have HB6 := Lib.hid hb6); (clear h6 hb6); (unfold refCV))
      obtain ⟨ob, hob⟩ : ∃ ob, w6.heap.size = ob := ⟨_, rfl⟩
      refine wp_name fun V6 hV6 => ?_
      have hb6 : Below w6.heap.size w6 V6 := by rw [hV6]; exact (Below.refl _ _).alloc (Nat.le_refl _) _
      have HO6 := Lib.hid (show BoxAt V6 ob [.slice sa6 (Ch.set C i ⟨page, true, false, used, pins⟩).slots.length sc6, .int .i64 (C.hand : Int), .int .i64 (C.disk.blocks : Int), .int .i64 (C.disk.size : Int), .slice la6 C.disk.lasting.length lc6, .slice wa6 C.disk.waiting.length wq6, .bool C.disk.lit, .int .i64 C.disk.after, .int .i64 C.disk.torn, .int .i64 C.disk.cut, .slice ka6 C.disk.keep.length kc6, .bool C.disk.off, .int .i64 C.disk.count] by rw [hV6]; exact BoxAt.newAt _ _ hob [_, _, _, _, _, _, _, _, _, _, _, _, _] _)
      have HB56 := Lib.hid (below_step HB6.out hb6)
      have H6V := Lib.hid (H6.out.on (w' := V6) fun k hk => hb6.block k (hk.elim (fun hk => by have := HG.out k hk; have := HB5.out.size; have := HB6.out.size; omega) (fun hk => hk.2)))
      have HOBE := Lib.hid hob
      clear hV6 hb6 x0 x1 x2 x3 x4 x5 x6 x7 x8 x9 x10 x11 x12 m0 m1 m2 m3 m4 m5 m6 m7
      rw [hob]
      clear hob
      have HY6 := Lib.hid (HY5.out.below HB56.out)
      have HZ6 := Lib.hid (HZ5.out.below HB56.out)
      have hd6 := HD5.out.on (w' := V6) fun k hk => HB56.out.block k (by have := (hG2 k hk).2.1; omega)
      have HD6 := Lib.hid hd6
      clear hd6
      obtain ⟨x0, x1, x2, x3, x4, x5, x6, x7, x8, x9, x10, x11, x12⟩ := HO6.out.thirteen
      obtain ⟨z0, z1, z2, z3, z4, z5, z6, z7, z8, z9, z10⟩ := HZ6.out.eleven
      obtain ⟨y0, y1, y2, y3, y4, y5, y6, y7, y8, y9, y10, y11, y12⟩ := HY6.out.thirteen
      obtain ⟨f0, f1, f2, f3, f4, f5, f6, f7, f8, f9, f10, f11, f12⟩ := HY6.out.thirteenF
      go_wp2_with fail
      refine bodyPost_ret (v := .tuple #[refCV { Ch.set C i ⟨page, true, false, used, pins⟩ with disk := E } ⟨sa6, sc6, la2, lc2, wa2, wc2, ka2, kc2⟩, .int .i64 (0 : Int)]) (by simp [results, Tryz.results40, go_sem, refCV, Ch.set, y0, y1, y2, y3, y4, y5, y6, y7, y8, y9, y10, y11, y12]) rfl ?_
      have hs1 := HBV.out.size
      have hs2 := HB5.out.size
      have hs3 := HB56.out.size
      have hs4 := HB6.out.size
      have hs6 : w6.heap.size ≤ V6.heap.size := by have := HO6.out.lt; have := HOBE.out; omega
      have hbf : Below w.heap.size w V6 := below_step HB5.out HB56.out
      have hrows := H6V.out
      exact GivesCK.fin (G2 := fun k => More G V5 w6 k ∨ G2 k) (V := V6) (rb := nb + 1) ⟨(hrows.mono (G' := fun k => More G V5 w6 k ∨ G2 k) fun k hk => .inl hk).rows, (hrows.rowG).mono (fun k hk => .inl hk), ⟨xs2, ys2, HD6.out.mono fun k hk => .inr hk⟩⟩ (fun k hk => by
        rcases hk with (hk | hk) | hk
        · have := HG.out k hk; exact ⟨.inl hk, by omega, by omega⟩
        · exact ⟨.inr (by omega), by omega, by omega⟩
        · obtain ⟨q1, q2, q3⟩ := hG2 k hk
          refine ⟨q1.imp id fun q => by omega, by omega, ?_⟩
          rcases q1 with q1 | q1
          · have := HG.out k q1; omega
          · omega) (by omega) hbf (grown13 V6 (nb + 1) _ _ _ _ _ _ _ _ _ _ _ _ _)

    · have hDe := HD1.out
      rw [show decide (kk ≠ 0) = true by simp [hk0]] at hDe
      subst hDe
      have hkb : ((kk : Int) == 0) = false := by simp [hk0]
      go_upto_region 7 with fail
      refine wp_name fun V5 hV5 => ?_
      have hS5 : BoxAt V5 (nb + 1 + 1) [.int .i64 page.kind, .int .i64 page.id, .int .u64 (page.gen : Int), .slice ba page.body.length bc, .bool true, .bool true, .bool used, .int .i64 pins] := by rw [hV5]; exact HSC.out
      have hX5 := HXC.out
      have hY5 := HYC.out
      have hZ5 := HZC.out
      rw [← hV5] at hX5 hY5 hZ5
      have hB5 : Below w.heap.size w V5 := by rw [hV5]; exact HBC.out
      have hD5 := HDC.out
      rw [← hV5] at hD5
      have hsz5 : wc.heap.size ≤ V5.heap.size := by rw [hV5]; exact Nat.le_refl _
      clear hV5 m0 m1 m2 m3 m4 m5 m6 m7 fm5
      have HS5 := Lib.hid (show BoxAt V5 (nb + 1 + 1) [.int .i64 page.kind, .int .i64 page.id, .int .u64 (page.gen : Int), .slice ba page.body.length bc, .bool true, .bool true, .bool used, .int .i64 pins] from hS5)
      have HX5 := Lib.hid (show BoxAt V5 nb _ from hX5)
      have HY5 := Lib.hid (show BoxAt V5 (nb + 1) zeroC from hY5)
      have HZ5 := Lib.hid (show BoxAt V5 zb _ from hZ5)
      have HB5 := Lib.hid (show Below w.heap.size w V5 from hB5)
      have HD5 := Lib.hid (show DiskR G2 V5 E _ _ _ xs2 ys2 from hD5)
      clear hS5 hX5 hY5 hZ5 hB5 hD5
      have hs5 : zb < V5.heap.size := HZ5.out.lt
      obtain ⟨x0, x1, x2, x3, x4, x5, x6, x7, x8, x9, x10, x11, x12⟩ := HX5.out.thirteen
      obtain ⟨m0, m1, m2, m3, m4, m5, m6, m7⟩ := HS5.out.eight
      have HSET := Lib.hid (show Calls Tryz.prog 61 #[.agg #[.slice (some ⟨b, o, none⟩) N sc, .int .i64 (C.hand : Int), .int .i64 (C.disk.blocks : Int), .int .i64 (C.disk.size : Int), .slice la C.disk.lasting.length lc, .slice wa C.disk.waiting.length wq, .bool C.disk.lit, .int .i64 C.disk.after, .int .i64 C.disk.torn, .int .i64 C.disk.cut, .slice ka C.disk.keep.length kc, .bool C.disk.off, .int .i64 C.disk.count], .int .i64 (i : Int), .agg #[.int .i64 page.kind, .int .i64 page.id, .int .u64 (page.gen : Int), .slice ba page.body.length bc, .bool true, .bool true, .bool used, .int .i64 pins]] V5 (GivesC G V5 (Ch.set C i ⟨page, true, true, used, pins⟩)) by
        have hh := refCset_is (H.out.below HG.out HB5.out) (HG.out.more HB5.out.size) (by rw [HN.out]; exact hl.2) i (by rw [HN.out]; exact hi) (⟨page, true, true, used, pins⟩, ba, bc) (HB0.out.below HB5.out) HBG.out
        unfold refCV slotV at hh
        rw [HN.out] at hh
        exact hh)
      go_upto_region 8 with (go_at_call 61; (refine HSET.out.mono ?_); (rintro e w6 ⟨⟨⟨sa6, sc6, la6, lc6, wa6, wq6, ka6, kc6⟩, rfl, h6⟩, hb6⟩); (have H6 := Lib.hid h6); (have HB6 := Lib.hid hb6); (clear h6 hb6); (unfold refCV))
      obtain ⟨ob, hob⟩ : ∃ ob, w6.heap.size = ob := ⟨_, rfl⟩
      refine wp_name fun V6 hV6 => ?_
      have hb6 : Below w6.heap.size w6 V6 := by rw [hV6]; exact (Below.refl _ _).alloc (Nat.le_refl _) _
      have HO6 := Lib.hid (show BoxAt V6 ob [.slice sa6 (Ch.set C i ⟨page, true, true, used, pins⟩).slots.length sc6, .int .i64 (C.hand : Int), .int .i64 (C.disk.blocks : Int), .int .i64 (C.disk.size : Int), .slice la6 C.disk.lasting.length lc6, .slice wa6 C.disk.waiting.length wq6, .bool C.disk.lit, .int .i64 C.disk.after, .int .i64 C.disk.torn, .int .i64 C.disk.cut, .slice ka6 C.disk.keep.length kc6, .bool C.disk.off, .int .i64 C.disk.count] by rw [hV6]; exact BoxAt.newAt _ _ hob [_, _, _, _, _, _, _, _, _, _, _, _, _] _)
      have HB56 := Lib.hid (below_step HB6.out hb6)
      have H6V := Lib.hid (H6.out.on (w' := V6) fun k hk => hb6.block k (hk.elim (fun hk => by have := HG.out k hk; have := HB5.out.size; have := HB6.out.size; omega) (fun hk => hk.2)))
      have HOBE := Lib.hid hob
      clear hV6 hb6 x0 x1 x2 x3 x4 x5 x6 x7 x8 x9 x10 x11 x12 m0 m1 m2 m3 m4 m5 m6 m7
      rw [hob]
      clear hob
      have HY6 := Lib.hid (HY5.out.below HB56.out)
      have HZ6 := Lib.hid (HZ5.out.below HB56.out)
      have hd6 := HD5.out.on (w' := V6) fun k hk => HB56.out.block k (by have := (hG2 k hk).2.1; omega)
      have HD6 := Lib.hid hd6
      clear hd6
      obtain ⟨x0, x1, x2, x3, x4, x5, x6, x7, x8, x9, x10, x11, x12⟩ := HO6.out.thirteen
      obtain ⟨z0, z1, z2, z3, z4, z5, z6, z7, z8, z9, z10⟩ := HZ6.out.eleven
      obtain ⟨y0, y1, y2, y3, y4, y5, y6, y7, y8, y9, y10, y11, y12⟩ := HY6.out.thirteen
      obtain ⟨f0, f1, f2, f3, f4, f5, f6, f7, f8, f9, f10, f11, f12⟩ := HY6.out.thirteenF
      go_wp2_with fail
      refine bodyPost_ret (v := .tuple #[refCV { Ch.set C i ⟨page, true, true, used, pins⟩ with disk := E } ⟨sa6, sc6, la2, lc2, wa2, wc2, ka2, kc2⟩, .int .i64 (kk : Int)]) (by simp [results, Tryz.results40, go_sem, refCV, Ch.set, y0, y1, y2, y3, y4, y5, y6, y7, y8, y9, y10, y11, y12]) rfl ?_
      have hs1 := HBV.out.size
      have hs2 := HB5.out.size
      have hs3 := HB56.out.size
      have hs4 := HB6.out.size
      have hs6 : w6.heap.size ≤ V6.heap.size := by have := HO6.out.lt; have := HOBE.out; omega
      have hbf : Below w.heap.size w V6 := below_step HB5.out HB56.out
      have hrows := H6V.out
      exact GivesCK.fin (G2 := fun k => More G V5 w6 k ∨ G2 k) (V := V6) (rb := nb + 1) ⟨(hrows.mono (G' := fun k => More G V5 w6 k ∨ G2 k) fun k hk => .inl hk).rows, (hrows.rowG).mono (fun k hk => .inl hk), ⟨xs2, ys2, HD6.out.mono fun k hk => .inr hk⟩⟩ (fun k hk => by
        rcases hk with (hk | hk) | hk
        · have := HG.out k hk; exact ⟨.inl hk, by omega, by omega⟩
        · exact ⟨.inr (by omega), by omega, by omega⟩
        · obtain ⟨q1, q2, q3⟩ := hG2 k hk
          refine ⟨q1.imp id fun q => by omega, by omega, ?_⟩
          rcases q1 with q1 | q1
          · have := HG.out k q1; omega
          · omega) (by omega) hbf (grown13 V6 (nb + 1) _ _ _ _ _ _ _ _ _ _ _ _ _)

end Go.Proofs.YtflbioiildndoaaGreatDoor

