/- the document's caches: Unpin (printed by wip/tools/gen_refc.py from rc/refcunpin.txt) -/
import Derived.Test.YtflbioiildndoaaGreatDoorRefC6
namespace Go.Proofs.YtflbioiildndoaaGreatDoor
open Go.RowKit
set_option linter.unusedVariables false
set_option linter.unusedSimpArgs false

set_option maxRecDepth 100000 in
set_option maxHeartbeats 8000000 in
theorem refCunpin_is {G : Nat → Prop} {w : World} {n : Nat} {C D : Ch.Cache} {kk : Nat} {s : Shp} (h : RefC G w C s) (hG : Held G w) (ho : Ch.Ok n C) (id : Int) (hD : Ch.unpin C id = (D, kk)) :
    Calls Tryz.prog 68 #[refCV C s, .int .i64 id] w (GivesCK G w D kk) := by
  have hl := ho.len
  obtain ⟨a, ha⟩ : ∃ a, Ch.at_ C id = a := ⟨_, rfl⟩
  obtain ⟨bi, hbi⟩ : ∃ bi, decide (Bk.In C.disk id) = bi := ⟨_, rfl⟩
  have HG := Lib.hid hG
  have HA := Lib.hid ha
  have HBI := Lib.hid hbi
  have HD := Lib.hid hD
  have HL := Lib.hid hl
  obtain ⟨sa, sc, la, lc, wa, wq, ka, kc⟩ := s
  have H := Lib.hid h
  have HIN := Lib.hid (fun (w1 : World) => show Calls Tryz.prog 51 #[.agg #[.int .i64 (C.disk.blocks : Int), .int .i64 (C.disk.size : Int), .slice la C.disk.lasting.length lc, .slice wa C.disk.waiting.length wq, .bool C.disk.lit, .int .i64 C.disk.after, .int .i64 C.disk.torn, .int .i64 C.disk.cut, .slice ka C.disk.keep.length kc, .bool C.disk.off, .int .i64 C.disk.count], .int .i64 id] w1 fun e w' => e = .returned (.bool bi) ∧ Below w1.heap.size w1 w' from refIn4_is C.disk _ _ _ id bi hbi w1)
  unfold refCV
  clear h hG ho ha hbi hD hl
  go_enter Tryz.func68, Tryz.ntmps68
  go_upto_region 1 with fail
  obtain ⟨nb, hnb⟩ : ∃ nb, w.heap.size = nb := ⟨_, rfl⟩
  refine wp_name fun W hW => ?_
  have HH := Lib.hid (show Hav G w nb (nb + 1) (nb + 1) W C ⟨sa, sc, la, lc, wa, wq, ka, kc⟩ G from Hav.open_ H.out HG.out (by omega) (by rw [hW]; simp [hnb]) (by omega) (by rw [hW]; exact (BoxAt.newAt _ _ hnb [_, _, _, _, _, _, _, _, _, _, _, _, _] _).alloc _) (by rw [hW]; exact BoxAt.newAt _ _ (by simp [hnb]) [_, _, _, _, _, _, _, _, _, _, _, _, _] _) (by rw [hW]; go_grown))
  clear hW
  rw [hnb]
  clear hnb
  obtain ⟨x0, x1, x2, x3, x4, x5, x6, x7, x8, x9, x10, x11, x12⟩ := HH.out.x
  cases bi with
  | false =>
    have hD := HD.out
    unfold Ch.unpin at hD
    rw [if_neg (of_decide_eq_false HBI.out)] at hD
    obtain ⟨rfl, rfl⟩ := (by simpa only [Prod.mk.injEq] using hD : _ ∧ _)
    clear hD HD
    go_upto_region 2 with (go_at_call 51; (refine (HIN.out _).mono ?_); (rintro e w1 ⟨rfl, hb1⟩); (have HH1 := Lib.hid (HH.out.later hb1)); (clear hb1))
    clear x0 x1 x2 x3 x4 x5 x6 x7 x8 x9 x10 x11 x12
    obtain ⟨x0, x1, x2, x3, x4, x5, x6, x7, x8, x9, x10, x11, x12⟩ := HH1.out.x
    obtain ⟨y0, y1, y2, y3, y4, y5, y6, y7, y8, y9, y10, y11, y12⟩ := HH1.out.res.thirteen
    obtain ⟨f0, f1, f2, f3, f4, f5, f6, f7, f8, f9, f10, f11, f12⟩ := HH1.out.res.thirteenF
    go_wp2_with fail
    refine bodyPost_ret (v := .tuple #[refCV C ⟨sa, sc, la, lc, wa, wq, ka, kc⟩, .int .i64 2]) (by simp [results, Tryz.results68, go_sem, refCV, y0, y1, y2, y3, y4, y5, y6, y7, y8, y9, y10, y11, y12]) rfl ?_
    exact GivesCK.done HH1.out (grown13 _ (nb + 1) _ _ _ _ _ _ _ _ _ _ _ _ _)
  | true =>
  have HU := Lib.hid (Ch.unpin_in (of_decide_eq_true HBI.out) HD.out)
  rw [HA.out] at HU
  clear HD
  go_upto_region 3 with (go_at_call 51; (refine (HIN.out _).mono ?_); (rintro e w1 ⟨rfl, hb1⟩); (have HH1 := Lib.hid (HH.out.later hb1)); (clear hb1))
  have HAT := Lib.hid (show Calls Tryz.prog 59 #[.agg #[.slice sa C.slots.length sc, .int .i64 (C.hand : Int), .int .i64 (C.disk.blocks : Int), .int .i64 (C.disk.size : Int), .slice la C.disk.lasting.length lc, .slice wa C.disk.waiting.length wq, .bool C.disk.lit, .int .i64 C.disk.after, .int .i64 C.disk.torn, .int .i64 C.disk.cut, .slice ka C.disk.keep.length kc, .bool C.disk.off, .int .i64 C.disk.count], .int .i64 id] w1 fun e w' => e = .returned (.int .i64 a) ∧ Below w1.heap.size w1 w' from by
    have hh := refCat_is HH1.out.ref HH1.out.held HL.out.2 id a HA.out
    unfold refCV at hh
    exact hh)
  clear x0 x1 x2 x3 x4 x5 x6 x7 x8 x9 x10 x11 x12
  obtain ⟨x0, x1, x2, x3, x4, x5, x6, x7, x8, x9, x10, x11, x12⟩ := HH1.out.x
  rcases HU.out with ⟨hDD, hk, rfl | ⟨q, rfl, hi, hp⟩⟩ | ⟨q, rfl, hi, hp, hDD, hk⟩
  · subst hk hDD
    clear HU
    go_upto_region 4 with (go_at_call 59; (refine HAT.out.mono ?_); (rintro e w2 ⟨rfl, hb2⟩); (have HH2 := Lib.hid (HH1.out.later hb2)); (clear hb2))
    clear x0 x1 x2 x3 x4 x5 x6 x7 x8 x9 x10 x11 x12
    obtain ⟨x0, x1, x2, x3, x4, x5, x6, x7, x8, x9, x10, x11, x12⟩ := HH2.out.x
    obtain ⟨y0, y1, y2, y3, y4, y5, y6, y7, y8, y9, y10, y11, y12⟩ := HH2.out.res.thirteen
    obtain ⟨f0, f1, f2, f3, f4, f5, f6, f7, f8, f9, f10, f11, f12⟩ := HH2.out.res.thirteenF
    go_wp2_with fail
    refine bodyPost_ret (v := .tuple #[refCV D ⟨sa, sc, la, lc, wa, wq, ka, kc⟩, .int .i64 4]) (by simp [results, Tryz.results68, go_sem, refCV, y0, y1, y2, y3, y4, y5, y6, y7, y8, y9, y10, y11, y12]) rfl ?_
    exact GivesCK.done HH2.out (grown13 _ (nb + 1) _ _ _ _ _ _ _ _ _ _ _ _ _)
  · subst hk hDD
    clear HU
    have hq1 : (q : Int) < (D.slots.length : Int) := by omega
    have hq0 : (0 : Int) ≤ (q : Int) := by omega
    have hq2 : ¬ (q : Int) < 0 := by omega
    go_upto_region 4 with (go_at_call 59; (refine HAT.out.mono ?_); (rintro e w2 ⟨rfl, hb2⟩); (have HH2 := Lib.hid (HH1.out.later hb2)); (clear hb2))
    clear x0 x1 x2 x3 x4 x5 x6 x7 x8 x9 x10 x11 x12
    obtain ⟨b, o, ba, bc, hsa, e0, e1, e2, e3, e4, e5, e6, e7, hbs, hbg⟩ := HH2.out.ref.slotAt hi
    simp only at hsa
    subst hsa
    rw [hp] at e7
    clear hbs hbg e0 e1 e2 e3 e4 e5 e6 hp hi
    obtain ⟨x0, x1, x2, x3, x4, x5, x6, x7, x8, x9, x10, x11, x12⟩ := HH2.out.x
    obtain ⟨y0, y1, y2, y3, y4, y5, y6, y7, y8, y9, y10, y11, y12⟩ := HH2.out.res.thirteen
    obtain ⟨f0, f1, f2, f3, f4, f5, f6, f7, f8, f9, f10, f11, f12⟩ := HH2.out.res.thirteenF
    go_wp2_with fail
    refine bodyPost_ret (v := .tuple #[refCV D ⟨some ⟨b, o, none⟩, sc, la, lc, wa, wq, ka, kc⟩, .int .i64 4]) (by simp [results, Tryz.results68, go_sem, refCV, y0, y1, y2, y3, y4, y5, y6, y7, y8, y9, y10, y11, y12]) rfl ?_
    exact GivesCK.done HH2.out (grown13 _ (nb + 1) _ _ _ _ _ _ _ _ _ _ _ _ _)
  · subst hk
    clear HU
    have hq1 : (q : Int) < (C.slots.length : Int) := by omega
    have hq0 : (0 : Int) ≤ (q : Int) := by omega
    have hq2 : ¬ (q : Int) < 0 := by omega
    have HLT := Lib.hid hi
    go_upto_region 4 with (go_at_call 59; (refine HAT.out.mono ?_); (rintro e w2 ⟨rfl, hb2⟩); (have HH2 := Lib.hid (HH1.out.later hb2)); (clear hb2))
    clear x0 x1 x2 x3 x4 x5 x6 x7 x8 x9 x10 x11 x12
    obtain ⟨b, o, ba, bc, hsa, e0, e1, e2, e3, e4, e5, e6, e7, hbs, hbg⟩ := HH2.out.ref.slotAt hi
    simp only at hsa
    subst hsa
    have HBS := Lib.hid hbs
    have HBG := Lib.hid hbg
    obtain ⟨x, hx⟩ : ∃ x, Ch.slot C q = x := ⟨_, rfl⟩
    rw [hx] at e0 e1 e2 e3 e4 e5 e6 e7 HBS HBG hp hDD
    clear hx hbs hbg hi
    obtain ⟨page, full, dirty, used, pins⟩ := x
    simp only at e0 e1 e2 e3 e4 e5 e6 e7 HBS HBG hp hDD
    have hpb : (pins == 0) = false := by simp [hp]
    obtain ⟨P, hP⟩ : ∃ P, IntKind.i64.wrap (pins - 1) = P := ⟨_, rfl⟩
    rw [hP] at hDD
    have HD1 := Lib.hid hDD.symm
    clear hDD hp
    obtain ⟨x0, x1, x2, x3, x4, x5, x6, x7, x8, x9, x10, x11, x12⟩ := HH2.out.x
    go_upto_region 8 with fail
    obtain ⟨pb, hpbl⟩ : ∃ pb, w2.heap.size = pb := ⟨_, rfl⟩
    refine wp_name fun Z hZ => ?_
    have hS : BoxAt Z pb [.int .i64 page.kind, .int .i64 page.id, .int .u64 (page.gen : Int), .slice ba page.body.length bc, .bool full, .bool dirty, .bool used, .int .i64 P] := by rw [hZ]; first | exact BoxAt.newAt _ _ hpbl [_, _, _, _, _, _, _, _] _ | (rw [hpbl]; exact (BoxAt.newAt _ _ hpbl [_, _, _, _, _, _, _, _] _).put 7 (.int .i64 P))
    have hbZ : Below w2.heap.size w2 Z := by rw [hZ]; go_grown
    have HS := Lib.hid hS
    have HHZ := Lib.hid (HH2.out.later hbZ)
    have HSET := Lib.hid (show Calls Tryz.prog 61 #[.agg #[.slice (some ⟨b, o, none⟩) C.slots.length sc, .int .i64 (C.hand : Int), .int .i64 (C.disk.blocks : Int), .int .i64 (C.disk.size : Int), .slice la C.disk.lasting.length lc, .slice wa C.disk.waiting.length wq, .bool C.disk.lit, .int .i64 C.disk.after, .int .i64 C.disk.torn, .int .i64 C.disk.cut, .slice ka C.disk.keep.length kc, .bool C.disk.off, .int .i64 C.disk.count], .int .i64 (q : Int), .agg #[.int .i64 page.kind, .int .i64 page.id, .int .u64 (page.gen : Int), .slice ba page.body.length bc, .bool full, .bool dirty, .bool used, .int .i64 P]] Z (GivesC G Z D) from by
      have hh := refCset_is HHZ.out.ref HHZ.out.held HL.out.2 q HLT.out (⟨page, full, dirty, used, P⟩, ba, bc) (HBS.out.below hbZ) HBG.out
      rw [show Ch.set C q (⟨page, full, dirty, used, P⟩, ba, bc).1 = D from HD1.out] at hh
      unfold refCV slotV at hh
      exact hh)
    clear hZ hS hbZ hP x0 x1 x2 x3 x4 x5 x6 x7 x8 x9 x10 x11 x12 e0 e1 e2 e3 e4 e5 e6 e7 hpb
    rw [hpbl]
    clear hpbl
    obtain ⟨x0, x1, x2, x3, x4, x5, x6, x7, x8, x9, x10, x11, x12⟩ := HHZ.out.x
    obtain ⟨m0, m1, m2, m3, m4, m5, m6, m7⟩ := HS.out.eight
    go_wp2_with (go_at_call 61; (refine HSET.out.mono ?_); (rintro e w6 ⟨⟨⟨sa6, sc6, la6, lc6, wa6, wq6, ka6, kc6⟩, rfl, h6⟩, hb6⟩); (have H6 := Lib.hid h6); (have HB6 := Lib.hid hb6); (obtain ⟨y0, y1, y2, y3, y4, y5, y6, y7, y8, y9, y10, y11, y12⟩ := (HHZ.out.later hb6).res.thirteen); (obtain ⟨f0, f1, f2, f3, f4, f5, f6, f7, f8, f9, f10, f11, f12⟩ := (HHZ.out.later hb6).res.thirteenF); (clear h6 hb6); (unfold refCV))
    refine bodyPost_ret (v := .tuple #[refCV D ⟨sa6, sc6, la6, lc6, wa6, wq6, ka6, kc6⟩, .int .i64 0]) (by simp [results, Tryz.results68, go_sem, refCV, y0, y1, y2, y3, y4, y5, y6, y7, y8, y9, y10, y11, y12]) rfl ?_
    exact GivesCK.doneOf HHZ.out H6.out HB6.out (grown13 _ (nb + 1) _ _ _ _ _ _ _ _ _ _ _ _ _)
end Go.Proofs.YtflbioiildndoaaGreatDoor

