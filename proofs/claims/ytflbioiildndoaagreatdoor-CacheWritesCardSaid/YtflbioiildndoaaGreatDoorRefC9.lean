/- the document's caches: Get (printed by wip/tools/gen_refc.py from rc/refcget.txt) -/
import Derived.Test.YtflbioiildndoaaGreatDoorRefC8
namespace Go.Proofs.YtflbioiildndoaaGreatDoor
open Go.RowKit
set_option linter.unusedVariables false
set_option linter.unusedSimpArgs false

/-- what a call of the document's leaves: a cache, a page, a code -/
def GivesCP (G : Nat → Prop) (w : World) (C : Ch.Cache) (p : Pg.Page) (k : Nat) (e : Ending) (w' : World) : Prop :=
  (∃ s a cc, e = .returned (.tuple #[refCV C s, .agg #[.int .i64 p.kind, .int .i64 p.id, .int .u64 (p.gen : Int), .slice a p.body.length cc], .int .i64 (k : Int)]) ∧ RefC (More G w w') w' C s ∧ BytesAt w' (.slice a p.body.length cc) p.body ∧ (p.body = [] ∨ InG (More G w w') (.slice a p.body.length cc))) ∧ Below w.heap.size w w'
theorem Hav.done2 {G X : Nat → Prop} {w V V1 W : World} {nb rb eb : Nat} {C : Ch.Cache} {s : Shp} (h : Hav G w nb rb eb V C s X) (h2 : V1.grownBy W (some eb)) (h1 : V.grownBy V1 (some rb)) : RefC (More G w W) W C s ∧ Below w.heap.size w W ∧ ∀ k, X k → W.heap[k]? = V.heap[k]? ∧ More G w W k := by
  have hs1 := h1.size
  have hs2 := h2.size
  have hl := h.low
  have hb := h.below.size
  have hX : ∀ k, X k → (G k ∨ w.heap.size ≤ k) ∧ W.heap[k]? = V.heap[k]? ∧ k < W.heap.size := fun k hk => by
    obtain ⟨g1, g2, g3, g4, g5⟩ := h.apart k hk
    exact ⟨g1, (h2.block k (by omega) (by intro e; have e1 := Option.some.inj e; omega)).trans (h1.block k g2 (by intro e; have e1 := Option.some.inj e; omega)), by omega⟩
  refine ⟨RefC.hand h.ref hX, (h.below.trans (below_of_grown h1 hl.2.1 hb)).trans (below_of_grown h2 hl.2.2 (by omega)), fun k hk => ?_⟩
  obtain ⟨g1, g2, g3⟩ := hX k hk
  exact ⟨g2, g1.imp id fun q => ⟨q, g3⟩⟩

set_option maxRecDepth 100000 in
set_option maxHeartbeats 8000000 in
theorem refCget_is {G : Nat → Prop} {w : World} {n : Nat} {C D : Ch.Cache} {p : Pg.Page} {kk : Nat} {s : Shp} (h : RefC G w C s) (hG : Held G w) (ho : Ch.Ok n C) (hn : n ≤ 1000) (id : Int) (hD : Ch.get C id = (D, p, kk)) :
    Calls Tryz.prog 33 #[refCV C s, .int .i64 id] w (GivesCP G w D p kk) := by
  obtain ⟨D1, i1, k1, hld⟩ : ∃ D1 i1 k1, Ch.loadIn C id = (D1, i1, k1) := ⟨_, _, _, rfl⟩
  have hD := (Ch.get_loadIn hld).symm.trans hD
  have hsz := Ch.Ok.loadIn ho hld
  have HG := Lib.hid hG
  have HO := Lib.hid ho
  have HLD := Lib.hid hld
  have HD := Lib.hid hD
  obtain ⟨sa, sc, la, lc, wa, wq, ka, kc⟩ := s
  have H := Lib.hid h
  unfold refCV
  clear h hG ho hld hD
  go_enter Tryz.func33, Tryz.ntmps33
  go_upto_region 1 with fail
  obtain ⟨nb, hnb⟩ : ∃ nb, w.heap.size = nb := ⟨_, rfl⟩
  refine wp_name fun W hW => ?_
  have HH := Lib.hid (show Hav G w nb (nb + 1) (nb + 1 + 1) W C ⟨sa, sc, la, lc, wa, wq, ka, kc⟩ G from Hav.open_ H.out HG.out (by omega) (by rw [hW]; simp [hnb]) (by omega) (by rw [hW]; exact ((BoxAt.newAt _ _ hnb [_, _, _, _, _, _, _, _, _, _, _, _, _] _).alloc _).alloc _) (by rw [hW]; exact (BoxAt.newAt _ _ (by simp [hnb]) [_, _, _, _, _, _, _, _, _, _, _, _, _] _).alloc _) (by rw [hW]; go_grown))
  have HP := Lib.hid (show BoxAt W (nb + 1 + 1) [.int .i64 0, .int .i64 0, .int .u64 0, .slice none 0 0] by rw [hW]; exact BoxAt.newAt _ _ (by simp [hnb]) [_, _, _, _] _)
  clear hW
  rw [hnb]
  clear hnb
  have HLOAD := Lib.hid (show Calls Tryz.prog 53 #[.agg #[.slice sa C.slots.length sc, .int .i64 (C.hand : Int), .int .i64 (C.disk.blocks : Int), .int .i64 (C.disk.size : Int), .slice la C.disk.lasting.length lc, .slice wa C.disk.waiting.length wq, .bool C.disk.lit, .int .i64 C.disk.after, .int .i64 C.disk.torn, .int .i64 C.disk.cut, .slice ka C.disk.keep.length kc, .bool C.disk.off, .int .i64 C.disk.count], .int .i64 id] W (GivesCS G W D1 i1 k1) from by
    have hh := refCload_is HH.out.ref HH.out.held HO.out hn id (show (if Bk.In C.disk id then Ch.load C id else (C, 0, 2)) = (D1, i1, k1) from HLD.out)
    unfold refCV at hh
    exact hh)
  obtain ⟨x0, x1, x2, x3, x4, x5, x6, x7, x8, x9, x10, x11, x12⟩ := HH.out.x
  go_upto_region 2 with (go_at_call 53; (refine HLOAD.out.mono ?_); (rintro e w3 ⟨⟨⟨sa3, sc3, la3, lc3, wa3, wq3, ka3, kc3⟩, rfl, h3⟩, hb3⟩); (have H3 := Lib.hid h3); (have HB3 := Lib.hid hb3); (obtain ⟨y0, y1, y2, y3, y4, y5, y6, y7, y8, y9, y10, y11, y12⟩ := (HH.out.later hb3).x); (obtain ⟨f0, f1, f2, f3, f4, f5, f6, f7, f8, f9, f10, f11, f12⟩ := (HH.out.later hb3).f); (clear h3 hb3); (unfold refCV))
  refine wp_name fun V hV => ?_
  have hgV : w3.grownBy V (some nb) := by rw [hV]; exact grown13 w3 nb _ _ _ _ _ _ _ _ _ _ _ _ _
  have HHV := Lib.hid (show Hav G w nb (nb + 1) (nb + 1 + 1) V D1 ⟨sa3, sc3, la3, lc3, wa3, wq3, ka3, kc3⟩ (More G W w3) from HH.out.store H3.out HB3.out hgV (by rw [hV]; exact (HH.out.later HB3.out).box.fill13 (.slice sa3 D1.slots.length sc3) (.int .i64 (D1.hand : Int)) (.int .i64 (D1.disk.blocks : Int)) (.int .i64 (D1.disk.size : Int)) (.slice la3 D1.disk.lasting.length lc3) (.slice wa3 D1.disk.waiting.length wq3) (.bool D1.disk.lit) (.int .i64 D1.disk.after) (.int .i64 D1.disk.torn) (.int .i64 D1.disk.cut) (.slice ka3 D1.disk.keep.length kc3) (.bool D1.disk.off) (.int .i64 D1.disk.count)))
  have HPV := Lib.hid (show BoxAt V (nb + 1 + 1) [.int .i64 0, .int .i64 0, .int .u64 0, .slice none 0 0] from (HP.out.below HB3.out).on (hgV.block _ (by have := HP.out.lt; have := HB3.out.size; omega) (by simp; omega)))
  clear hV hgV x0 x1 x2 x3 x4 x5 x6 x7 x8 x9 x10 x11 x12 y0 y1 y2 y3 y4 y5 y6 y7 y8 y9 y10 y11 y12 f0 f1 f2 f3 f4 f5 f6 f7 f8 f9 f10 f11 f12
  obtain ⟨p0, p1, p2, p3⟩ := HPV.out.four
  obtain ⟨r0, r1, r2, r3⟩ : V.frozen? ⟨nb + 1 + 1, 0, none⟩ = false ∧ V.frozen? ⟨nb + 1 + 1, 1, none⟩ = false ∧ V.frozen? ⟨nb + 1 + 1, 2, none⟩ = false ∧ V.frozen? ⟨nb + 1 + 1, 3, none⟩ = false := ⟨HPV.out.free 0 _ rfl, HPV.out.free 1 _ rfl, HPV.out.free 2 _ rfl, HPV.out.free 3 _ rfl⟩
  obtain ⟨x0, x1, x2, x3, x4, x5, x6, x7, x8, x9, x10, x11, x12⟩ := HHV.out.x
  obtain ⟨y0, y1, y2, y3, y4, y5, y6, y7, y8, y9, y10, y11, y12⟩ := HHV.out.res.thirteen
  obtain ⟨f0, f1, f2, f3, f4, f5, f6, f7, f8, f9, f10, f11, f12⟩ := HHV.out.res.thirteenF
  by_cases hk1 : k1 = 0
  · subst hk1
    have hD := HD.out
    rw [if_pos rfl] at hD
    clear HD
    have hq1 : (i1 : Int) < (D1.slots.length : Int) := by omega
    have hq0 : (0 : Int) ≤ (i1 : Int) := by omega
    obtain ⟨b, o, ba, bc, hsa, e0, e1, e2, e3, e4, e5, e6, e7, hbs, hbg⟩ := HHV.out.ref.slotAt hsz.2
    simp only at hsa
    subst hsa
    have HBS := Lib.hid hbs
    have HBG := Lib.hid hbg
    clear hbs hbg hsz e4 e5 e6 e7
    obtain ⟨pg, hx⟩ : ∃ pg, (Ch.slot D1 i1).page = pg := ⟨_, rfl⟩
    rw [hx] at e0 e1 e2 e3 HBS HBG hD
    clear hx
    obtain ⟨rfl, rfl, rfl⟩ := (by simpa only [Prod.mk.injEq] using hD : _ ∧ _ ∧ _)
    clear hD
    go_upto_region 4 with fail
    have hbr : b ≠ nb + 1 := (HHV.out.apart b (HHV.out.ref.rowG b rfl)).2.2.2.1
    have hbs : (some (nb + 1) : Option Nat) ≠ some b := by intro e; exact hbr (Option.some.inj e).symm
    have c0 := Near.cell (w := V.drew) (row := some (nb + 1)) (show V.drew.cell? ⟨nb, 0, none⟩ = _ from x0) (by simp)
    have c1 := Near.cell (w := V.drew) (row := some (nb + 1)) (show V.drew.cell? ⟨nb, 1, none⟩ = _ from x1) (by simp)
    have c2 := Near.cell (w := V.drew) (row := some (nb + 1)) (show V.drew.cell? ⟨nb, 2, none⟩ = _ from x2) (by simp)
    have c3 := Near.cell (w := V.drew) (row := some (nb + 1)) (show V.drew.cell? ⟨nb, 3, none⟩ = _ from x3) (by simp)
    have c4 := Near.cell (w := V.drew) (row := some (nb + 1)) (show V.drew.cell? ⟨nb, 4, none⟩ = _ from x4) (by simp)
    have c5 := Near.cell (w := V.drew) (row := some (nb + 1)) (show V.drew.cell? ⟨nb, 5, none⟩ = _ from x5) (by simp)
    have c6 := Near.cell (w := V.drew) (row := some (nb + 1)) (show V.drew.cell? ⟨nb, 6, none⟩ = _ from x6) (by simp)
    have c7 := Near.cell (w := V.drew) (row := some (nb + 1)) (show V.drew.cell? ⟨nb, 7, none⟩ = _ from x7) (by simp)
    have c8 := Near.cell (w := V.drew) (row := some (nb + 1)) (show V.drew.cell? ⟨nb, 8, none⟩ = _ from x8) (by simp)
    have c9 := Near.cell (w := V.drew) (row := some (nb + 1)) (show V.drew.cell? ⟨nb, 9, none⟩ = _ from x9) (by simp)
    have c10 := Near.cell (w := V.drew) (row := some (nb + 1)) (show V.drew.cell? ⟨nb, 10, none⟩ = _ from x10) (by simp)
    have c11 := Near.cell (w := V.drew) (row := some (nb + 1)) (show V.drew.cell? ⟨nb, 11, none⟩ = _ from x11) (by simp)
    have c12 := Near.cell (w := V.drew) (row := some (nb + 1)) (show V.drew.cell? ⟨nb, 12, none⟩ = _ from x12) (by simp)
    have m0 := Near.cell (w := V.drew) (row := some (nb + 1)) (show V.drew.cell? ⟨b, o + i1 * 8, none⟩ = _ from e0) hbs
    have m1 := Near.cell (w := V.drew) (row := some (nb + 1)) (show V.drew.cell? ⟨b, o + i1 * 8 + 1, none⟩ = _ from e1) hbs
    have m2 := Near.cell (w := V.drew) (row := some (nb + 1)) (show V.drew.cell? ⟨b, o + i1 * 8 + 2, none⟩ = _ from e2) hbs
    have m3 := Near.cell (w := V.drew) (row := some (nb + 1)) (show V.drew.cell? ⟨b, o + i1 * 8 + 3, none⟩ = _ from e3) hbs
    clear hbr hbs
    refine wp_region_mix (fun w' => ∃ x : Near V.drew (some (nb + 1)), w' = x.world) [8] 10 (by kernel_rfl) rfl ?_
    refine mix_reads_lit [0, 1, 2, 3, 4, 5, 6] 3 (by kernel_rfl) (by kernel_rfl) (by kernel_rfl) (by kernel_rfl) rfl (NearC.of (World.grownBy.refl _ _)) ?_
    simp only [pick, List.filterMap_cons, List.filterMap_nil, List.getElem?_cons_succ, List.getElem?_cons_zero]
    repeat (first | go_big_quiet_step (fail) | quiet_step (fail))
    refine wpQuiet_nil ?_
    clear c0 c1 c2 c3 c4 c5 c6 c7 c8 c9 c10 c11 c12 x0 x1 x2 x3 x4 x5 x6 x7 x8 x9 x10 x11 x12 m0 m1 m2 m3 e0 e1 e2 e3
    refine mix_deed_lit 7 2 (by kernel_rfl) (by kernel_rfl) rfl (fun K hK => ?_)
    simp only [comesUp, List.getElem?_cons_succ, List.getElem?_cons_zero]
    refine if_mk rfl ?_
    go_simp
    obtain ⟨Z0, hZ0, hf, hgz⟩ := HHV.out.res.fill13s (.slice (some ⟨b, o, none⟩) D1.slots.length sc3) (.int .i64 (D1.hand : Int)) (.int .i64 (D1.disk.blocks : Int)) (.int .i64 (D1.disk.size : Int)) (.slice la3 D1.disk.lasting.length lc3) (.slice wa3 D1.disk.waiting.length wq3) (.bool D1.disk.lit) (.int .i64 D1.disk.after) (.int .i64 D1.disk.torn) (.int .i64 D1.disk.cut) (.slice ka3 D1.disk.keep.length kc3) (.bool D1.disk.off) (.int .i64 D1.disk.count)
    rw [← hZ0]
    clear hZ0
    refine hK _ _ (fun _ _ => NearC.of ⟨hgz.os, hgz.tape, hgz.output, hgz.size, hgz.block⟩) ?_
    clear hK K y0 y1 y2 y3 y4 y5 y6 y7 y8 y9 y10 y11 y12 f0 f1 f2 f3 f4 f5 f6 f7 f8 f9 f10 f11 f12 p0 p1 p2 p3 r0 r1 r2 r3
    have HZF := Lib.hid hf
    have HZG := Lib.hid hgz
    have HPZ := Lib.hid (HPV.out.on (hgz.block _ HPV.out.lt (by simp)))
    clear hf hgz
    obtain ⟨p0, p1, p2, p3⟩ := HPZ.out.four
    obtain ⟨r0, r1, r2, r3⟩ : Z0.frozen? ⟨nb + 1 + 1, 0, none⟩ = false ∧ Z0.frozen? ⟨nb + 1 + 1, 1, none⟩ = false ∧ Z0.frozen? ⟨nb + 1 + 1, 2, none⟩ = false ∧ Z0.frozen? ⟨nb + 1 + 1, 3, none⟩ = false := ⟨HPZ.out.free 0 _ rfl, HPZ.out.free 1 _ rfl, HPZ.out.free 2 _ rfl, HPZ.out.free 3 _ rfl⟩
    refine mix_deed_lit 8 1 (by kernel_rfl) (by kernel_rfl) rfl (fun K hK => ?_)
    simp only [comesUp, List.getElem?_cons_succ, List.getElem?_cons_zero]
    refine if_mk rfl ?_
    go_simp
    refine hK _ _ (fun h => by simp [keeps] at h) ?_
    clear hK K p0 p1 p2 p3 r0 r1 r2 r3
    obtain ⟨Z1, hZ1, hp, hgp⟩ : ∃ Z1, Z1 = (((Z0.setCell ⟨nb + 1 + 1, 0, none⟩ (.int .i64 pg.kind)).setCell ⟨nb + 1 + 1, 1, none⟩ (.int .i64 pg.id)).setCell ⟨nb + 1 + 1, 2, none⟩ (.int .u64 (pg.gen : Int))).setCell ⟨nb + 1 + 1, 3, none⟩ (.slice ba pg.body.length bc) ∧ BoxAt Z1 (nb + 1 + 1) [.int .i64 pg.kind, .int .i64 pg.id, .int .u64 (pg.gen : Int), .slice ba pg.body.length bc] ∧ Z0.grownBy Z1 (some (nb + 1 + 1)) :=
      ⟨_, rfl, ((((HPZ.out.put 0 (.int .i64 pg.kind)).put 1 (.int .i64 pg.id)).put 2 (.int .u64 (pg.gen : Int))).put 3 (.slice ba pg.body.length bc)), grown4 _ _ _ _ _ _⟩
    rw [← hZ1]
    clear hZ1
    refine mix_flat_lit [9] 0 (by kernel_rfl) (by kernel_rfl) (by kernel_rfl) (by kernel_rfl) rfl ?_
    simp only [pick, List.filterMap_cons, List.filterMap_nil, List.getElem?_cons_succ, List.getElem?_cons_zero]
    repeat (first | go_big_quiet_step (fail) | quiet_step (fail))
    refine wpQuiet_nil ?_
    refine mix_done_lit (by kernel_rfl) ?_
    have hf := HZF.out
    have hgz := HZG.out
    have hf1 := hf.on (hgp.block (nb + 1) hf.lt (by simp))
    have HFIN := Lib.hid (HHV.out.done2 (W := Z1.drew) (V1 := Z0) ⟨hgp.os, hgp.tape, hgp.output, hgp.size, hgp.block⟩ hgz)
    obtain ⟨z0, z1, z2, z3, z4, z5, z6, z7, z8, z9, z10, z11, z12⟩ := hf1.thirteen
    obtain ⟨p0, p1, p2, p3⟩ := hp.four
    clear hf hgz hgp hf1 hp
    go_wp2_with fail
    refine bodyPost_ret (v := .tuple #[refCV D1 ⟨some ⟨b, o, none⟩, sc3, la3, lc3, wa3, wq3, ka3, kc3⟩, .agg #[.int .i64 pg.kind, .int .i64 pg.id, .int .u64 (pg.gen : Int), .slice ba pg.body.length bc], .int .i64 0]) (by simp [results, Tryz.results33, go_sem, refCV, z0, z1, z2, z3, z4, z5, z6, z7, z8, z9, z10, z11, z12, p0, p1, p2, p3]) rfl ?_
    obtain ⟨g1, g2, g3⟩ := HFIN.out
    refine ⟨⟨_, _, _, rfl, g1, ?_, HBG.out.imp (fun q => q) fun q => ?_⟩, g2⟩
    · exact HBS.out.onE HBG.out fun k hk => (g3 k hk).1
    · exact fun k hk => (g3 k (q k hk)).2
  · have hD := HD.out
    rw [if_neg hk1] at hD
    obtain ⟨rfl, rfl, rfl⟩ := (by simpa only [Prod.mk.injEq] using hD : _ ∧ _ ∧ _)
    clear hD HD hsz
    have hkb : ((k1 : Int) == 0) = false := by simp [hk1]
    clear hk1
    go_wp2_with fail
    refine bodyPost_ret (v := .tuple #[refCV D1 ⟨sa3, sc3, la3, lc3, wa3, wq3, ka3, kc3⟩, .agg #[.int .i64 0, .int .i64 0, .int .u64 0, .slice none 0 0], .int .i64 (k1 : Int)]) (by simp [results, Tryz.results33, go_sem, refCV, y0, y1, y2, y3, y4, y5, y6, y7, y8, y9, y10, y11, y12, p0, p1, p2, p3]) rfl ?_
    obtain ⟨g1, g2, g3⟩ := HHV.out.done2 (grown4 _ (nb + 1 + 1) _ _ _ _) (grown13 _ (nb + 1) _ _ _ _ _ _ _ _ _ _ _ _ _)
    exact ⟨⟨⟨sa3, sc3, la3, lc3, wa3, wq3, ka3, kc3⟩, none, 0, rfl, g1, BytesAt.nil _, .inl rfl⟩, g2⟩
end Go.Proofs.YtflbioiildndoaaGreatDoor

