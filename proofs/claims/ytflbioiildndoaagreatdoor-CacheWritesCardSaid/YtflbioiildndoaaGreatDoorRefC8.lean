/- the document's caches: Pin (printed by wip/tools/gen_refc.py from rc/refcpin.txt) -/
import Derived.Test.YtflbioiildndoaaGreatDoorRefC7
namespace Go.Proofs.YtflbioiildndoaaGreatDoor
open Go.RowKit
set_option linter.unusedVariables false
set_option linter.unusedSimpArgs false

/-- the slot of a page, if there is such a page -/
def Ch.loadIn (C : Ch.Cache) (id : Int) : Ch.Cache × Nat × Nat := if Bk.In C.disk id then Ch.load C id else (C, 0, 2)
theorem Ch.get_loadIn {C D1 : Ch.Cache} {id : Int} {i1 k1 : Nat} (h : Ch.loadIn C id = (D1, i1, k1)) : Ch.get C id = if k1 = 0 then (D1, (Ch.slot D1 i1).page, 0) else (D1, Pg.zero, k1) := by
  unfold Ch.loadIn at h
  unfold Ch.get
  split at h
  · rename_i hi
    rw [if_pos hi, h]
  · rename_i hi
    rw [if_neg hi]
    obtain ⟨rfl, rfl, rfl⟩ := (by simpa only [Prod.mk.injEq] using h : _ ∧ _ ∧ _)
    rfl
theorem Ch.pin_loadIn {C D1 : Ch.Cache} {id : Int} {i1 k1 : Nat} (h : Ch.loadIn C id = (D1, i1, k1)) : Ch.pin C id = if k1 = 0 then (Ch.set D1 i1 { Ch.slot D1 i1 with pins := IntKind.i64.wrap ((Ch.slot D1 i1).pins + 1) }, 0) else (D1, k1) := by
  unfold Ch.loadIn at h
  unfold Ch.pin
  split at h
  · rename_i hi
    rw [if_pos hi, h]
  · rename_i hi
    rw [if_neg hi]
    obtain ⟨rfl, rfl, rfl⟩ := (by simpa only [Prod.mk.injEq] using h : _ ∧ _ ∧ _)
    rfl
theorem Ch.Ok.loadIn {n : Nat} {C D1 : Ch.Cache} {id : Int} {i1 k1 : Nat} (ho : Ch.Ok n C) (h : Ch.loadIn C id = (D1, i1, k1)) : D1.slots.length ≤ 64 ∧ i1 < D1.slots.length := by
  have hl := ho.len
  unfold Ch.loadIn at h
  split at h
  · rename_i hi
    obtain ⟨-, h2, h3, -, -⟩ := ho.load hi h
    omega
  · obtain ⟨rfl, rfl, rfl⟩ := (by simpa only [Prod.mk.injEq] using h : _ ∧ _ ∧ _)
    omega

set_option maxRecDepth 100000 in
set_option maxHeartbeats 8000000 in
theorem refCpin_is {G : Nat → Prop} {w : World} {n : Nat} {C D : Ch.Cache} {kk : Nat} {s : Shp} (h : RefC G w C s) (hG : Held G w) (ho : Ch.Ok n C) (hn : n ≤ 1000) (id : Int) (hD : Ch.pin C id = (D, kk)) :
    Calls Tryz.prog 66 #[refCV C s, .int .i64 id] w (GivesCK G w D kk) := by
  obtain ⟨D1, i1, k1, hld⟩ : ∃ D1 i1 k1, Ch.loadIn C id = (D1, i1, k1) := ⟨_, _, _, rfl⟩
  have hD := (Ch.pin_loadIn hld).symm.trans hD
  have hsz := Ch.Ok.loadIn ho hld
  have HG := Lib.hid hG
  have HO := Lib.hid ho
  have HLD := Lib.hid hld
  have HD := Lib.hid hD
  obtain ⟨sa, sc, la, lc, wa, wq, ka, kc⟩ := s
  have H := Lib.hid h
  unfold refCV
  clear h hG ho hld hD
  go_enter Tryz.func66, Tryz.ntmps66
  go_upto_region 1 with fail
  obtain ⟨nb, hnb⟩ : ∃ nb, w.heap.size = nb := ⟨_, rfl⟩
  refine wp_name fun W hW => ?_
  have HH := Lib.hid (show Hav G w nb (nb + 1) (nb + 1) W C ⟨sa, sc, la, lc, wa, wq, ka, kc⟩ G from Hav.open_ H.out HG.out (by omega) (by rw [hW]; simp [hnb]) (by omega) (by rw [hW]; exact (BoxAt.newAt _ _ hnb [_, _, _, _, _, _, _, _, _, _, _, _, _] _).alloc _) (by rw [hW]; exact BoxAt.newAt _ _ (by simp [hnb]) [_, _, _, _, _, _, _, _, _, _, _, _, _] _) (by rw [hW]; go_grown))
  clear hW
  rw [hnb]
  clear hnb
  have HLOAD := Lib.hid (show Calls Tryz.prog 53 #[.agg #[.slice sa C.slots.length sc, .int .i64 (C.hand : Int), .int .i64 (C.disk.blocks : Int), .int .i64 (C.disk.size : Int), .slice la C.disk.lasting.length lc, .slice wa C.disk.waiting.length wq, .bool C.disk.lit, .int .i64 C.disk.after, .int .i64 C.disk.torn, .int .i64 C.disk.cut, .slice ka C.disk.keep.length kc, .bool C.disk.off, .int .i64 C.disk.count], .int .i64 id] W (GivesCS G W D1 i1 k1) from by
    have hh := refCload_is HH.out.ref HH.out.held HO.out hn id (show (if Bk.In C.disk id then Ch.load C id else (C, 0, 2)) = (D1, i1, k1) from HLD.out)
    unfold refCV at hh
    exact hh)
  obtain ⟨x0, x1, x2, x3, x4, x5, x6, x7, x8, x9, x10, x11, x12⟩ := HH.out.x
  go_upto_region 2 with (go_at_call 53; (refine HLOAD.out.mono ?_); (rintro e w3 ⟨⟨⟨sa3, sc3, la3, lc3, wa3, wq3, ka3, kc3⟩, rfl, h3⟩, hb3⟩); (have H3 := Lib.hid h3); (have HB3 := Lib.hid hb3); (obtain ⟨y0, y1, y2, y3, y4, y5, y6, y7, y8, y9, y10, y11, y12⟩ := (HH.out.later hb3).x); (obtain ⟨f0, f1, f2, f3, f4, f5, f6, f7, f8, f9, f10, f11, f12⟩ := (HH.out.later hb3).f); (clear h3 hb3); (unfold refCV))
  refine wp_name fun V hV => ?_
  have HHV := Lib.hid (show Hav G w nb (nb + 1) (nb + 1) V D1 ⟨sa3, sc3, la3, lc3, wa3, wq3, ka3, kc3⟩ (More G W w3) from HH.out.store H3.out HB3.out (by rw [hV]; exact grown13 w3 nb _ _ _ _ _ _ _ _ _ _ _ _ _) (by rw [hV]; exact (HH.out.later HB3.out).box.fill13 (.slice sa3 D1.slots.length sc3) (.int .i64 (D1.hand : Int)) (.int .i64 (D1.disk.blocks : Int)) (.int .i64 (D1.disk.size : Int)) (.slice la3 D1.disk.lasting.length lc3) (.slice wa3 D1.disk.waiting.length wq3) (.bool D1.disk.lit) (.int .i64 D1.disk.after) (.int .i64 D1.disk.torn) (.int .i64 D1.disk.cut) (.slice ka3 D1.disk.keep.length kc3) (.bool D1.disk.off) (.int .i64 D1.disk.count)))
  clear hV x0 x1 x2 x3 x4 x5 x6 x7 x8 x9 x10 x11 x12 y0 y1 y2 y3 y4 y5 y6 y7 y8 y9 y10 y11 y12 f0 f1 f2 f3 f4 f5 f6 f7 f8 f9 f10 f11 f12
  obtain ⟨x0, x1, x2, x3, x4, x5, x6, x7, x8, x9, x10, x11, x12⟩ := HHV.out.x
  by_cases hk1 : k1 = 0
  · subst hk1
    have hD := HD.out
    rw [if_pos rfl] at hD
    clear HD
    have HLN := Lib.hid hsz
    have hq1 : (i1 : Int) < (D1.slots.length : Int) := by omega
    have hq0 : (0 : Int) ≤ (i1 : Int) := by omega
    obtain ⟨b, o, ba, bc, hsa, e0, e1, e2, e3, e4, e5, e6, e7, hbs, hbg⟩ := HHV.out.ref.slotAt hsz.2
    simp only at hsa
    subst hsa
    have HBS := Lib.hid hbs
    have HBG := Lib.hid hbg
    clear hbs hbg hsz
    obtain ⟨x, hx⟩ : ∃ x, Ch.slot D1 i1 = x := ⟨_, rfl⟩
    rw [hx] at e0 e1 e2 e3 e4 e5 e6 e7 HBS HBG hD
    clear hx
    obtain ⟨page, full, dirty, used, pins⟩ := x
    simp only at e0 e1 e2 e3 e4 e5 e6 e7 HBS HBG hD
    obtain ⟨hd1, hd2⟩ := (by simpa only [Prod.mk.injEq] using hD : _ ∧ _)
    subst hd2
    obtain ⟨P, hP⟩ : ∃ P, IntKind.i64.wrap (pins + 1) = P := ⟨_, rfl⟩
    rw [hP] at hd1
    have HD1 := Lib.hid hd1
    clear hD hd1
    go_upto_region 6 with fail
    obtain ⟨pb, hpb⟩ : ∃ pb, V.heap.size = pb := ⟨_, rfl⟩
    refine wp_name fun Z hZ => ?_
    have hS : BoxAt Z pb [.int .i64 page.kind, .int .i64 page.id, .int .u64 (page.gen : Int), .slice ba page.body.length bc, .bool full, .bool dirty, .bool used, .int .i64 P] := by rw [hZ]; first | exact BoxAt.newAt _ _ hpb [_, _, _, _, _, _, _, _] _ | (rw [hpb]; exact (BoxAt.newAt _ _ hpb [_, _, _, _, _, _, _, _] _).put 7 (.int .i64 P))
    have hbZ : Below V.heap.size V Z := by rw [hZ]; go_grown
    have HS := Lib.hid hS
    have HHZ := Lib.hid (HHV.out.later hbZ)
    have HSET := Lib.hid (show Calls Tryz.prog 61 #[.agg #[.slice (some ⟨b, o, none⟩) D1.slots.length sc3, .int .i64 (D1.hand : Int), .int .i64 (D1.disk.blocks : Int), .int .i64 (D1.disk.size : Int), .slice la3 D1.disk.lasting.length lc3, .slice wa3 D1.disk.waiting.length wq3, .bool D1.disk.lit, .int .i64 D1.disk.after, .int .i64 D1.disk.torn, .int .i64 D1.disk.cut, .slice ka3 D1.disk.keep.length kc3, .bool D1.disk.off, .int .i64 D1.disk.count], .int .i64 (i1 : Int), .agg #[.int .i64 page.kind, .int .i64 page.id, .int .u64 (page.gen : Int), .slice ba page.body.length bc, .bool full, .bool dirty, .bool used, .int .i64 P]] Z (GivesC (More G W w3) Z D) from by
      have hh := refCset_is HHZ.out.ref HHZ.out.held HLN.out.1 i1 HLN.out.2 (⟨page, full, dirty, used, P⟩, ba, bc) (HBS.out.below hbZ) HBG.out
      rw [show Ch.set D1 i1 (⟨page, full, dirty, used, P⟩, ba, bc).1 = D from HD1.out] at hh
      unfold refCV slotV at hh
      exact hh)
    clear hZ hS hbZ hP x0 x1 x2 x3 x4 x5 x6 x7 x8 x9 x10 x11 x12 e0 e1 e2 e3 e4 e5 e6 e7
    rw [hpb]
    clear hpb
    obtain ⟨x0, x1, x2, x3, x4, x5, x6, x7, x8, x9, x10, x11, x12⟩ := HHZ.out.x
    obtain ⟨m0, m1, m2, m3, m4, m5, m6, m7⟩ := HS.out.eight
    go_wp2_with (go_at_call 61; (refine HSET.out.mono ?_); (rintro e w6 ⟨⟨⟨sa6, sc6, la6, lc6, wa6, wq6, ka6, kc6⟩, rfl, h6⟩, hb6⟩); (have H6 := Lib.hid h6); (have HB6 := Lib.hid hb6); (obtain ⟨y0, y1, y2, y3, y4, y5, y6, y7, y8, y9, y10, y11, y12⟩ := (HHZ.out.later hb6).res.thirteen); (obtain ⟨f0, f1, f2, f3, f4, f5, f6, f7, f8, f9, f10, f11, f12⟩ := (HHZ.out.later hb6).res.thirteenF); (clear h6 hb6); (unfold refCV))
    refine bodyPost_ret (v := .tuple #[refCV D ⟨sa6, sc6, la6, lc6, wa6, wq6, ka6, kc6⟩, .int .i64 0]) (by simp [results, Tryz.results66, go_sem, refCV, y0, y1, y2, y3, y4, y5, y6, y7, y8, y9, y10, y11, y12]) rfl ?_
    exact GivesCK.doneOf HHZ.out H6.out HB6.out (grown13 _ (nb + 1) _ _ _ _ _ _ _ _ _ _ _ _ _)
  · have hD := HD.out
    rw [if_neg hk1] at hD
    obtain ⟨rfl, rfl⟩ := (by simpa only [Prod.mk.injEq] using hD : _ ∧ _)
    clear hD HD hsz
    have hkb : ((k1 : Int) == 0) = false := by simp [hk1]
    obtain ⟨y0, y1, y2, y3, y4, y5, y6, y7, y8, y9, y10, y11, y12⟩ := HHV.out.res.thirteen
    obtain ⟨f0, f1, f2, f3, f4, f5, f6, f7, f8, f9, f10, f11, f12⟩ := HHV.out.res.thirteenF
    clear hk1
    go_wp2_with fail
    refine bodyPost_ret (v := .tuple #[refCV D1 ⟨sa3, sc3, la3, lc3, wa3, wq3, ka3, kc3⟩, .int .i64 (k1 : Int)]) (by simp [results, Tryz.results66, go_sem, refCV, y0, y1, y2, y3, y4, y5, y6, y7, y8, y9, y10, y11, y12]) rfl ?_
    exact GivesCK.done HHV.out (grown13 _ (nb + 1) _ _ _ _ _ _ _ _ _ _ _ _ _)
end Go.Proofs.YtflbioiildndoaaGreatDoor

