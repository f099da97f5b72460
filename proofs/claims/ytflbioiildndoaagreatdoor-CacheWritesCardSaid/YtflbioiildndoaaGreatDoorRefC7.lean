/- the document's caches: Load (printed by wip/tools/gen_refc.py from rc/refcload.txt) -/
import Derived.Test.YtflbioiildndoaaGreatDoorRefC6
namespace Go.Proofs.YtflbioiildndoaaGreatDoor
open Go.RowKit
set_option linter.unusedVariables false
set_option linter.unusedSimpArgs false

set_option maxRecDepth 100000 in
set_option maxHeartbeats 8000000 in
theorem refCload_is {G : Nat → Prop} {w : World} {n : Nat} {C D : Ch.Cache} {i kk : Nat} {s : Shp} (h : RefC G w C s) (hG : Held G w) (ho : Ch.Ok n C) (hn : n ≤ 1000) (id : Int) (hD : (if Bk.In C.disk id then Ch.load C id else (C, 0, 2)) = (D, i, kk)) :
    Calls Tryz.prog 53 #[refCV C s, .int .i64 id] w (GivesCS G w D i kk) := by
  have hl := ho.len
  obtain ⟨a, ha⟩ : ∃ a, Ch.at_ C id = a := ⟨_, rfl⟩
  have har := Ch.at_range C id
  rw [ha] at har
  obtain ⟨bi, hbi⟩ : ∃ bi, decide (Bk.In C.disk id) = bi := ⟨_, rfl⟩
  have HG := Lib.hid hG
  have HO := Lib.hid ho
  have HA := Lib.hid ha
  have HBI := Lib.hid hbi
  have HD := Lib.hid hD
  have HL := Lib.hid hl
  obtain ⟨sa, sc, la, lc, wa, wq, ka, kc⟩ := s
  have H := Lib.hid h
  have HIN := Lib.hid (fun (w1 : World) => show Calls Tryz.prog 51 #[.agg #[.int .i64 (C.disk.blocks : Int), .int .i64 (C.disk.size : Int), .slice la C.disk.lasting.length lc, .slice wa C.disk.waiting.length wq, .bool C.disk.lit, .int .i64 C.disk.after, .int .i64 C.disk.torn, .int .i64 C.disk.cut, .slice ka C.disk.keep.length kc, .bool C.disk.off, .int .i64 C.disk.count], .int .i64 id] w1 fun e w' => e = .returned (.bool bi) ∧ Below w1.heap.size w1 w' from refIn4_is C.disk _ _ _ id bi hbi w1)
  unfold refCV
  clear h hG ho ha hbi hD hl
  go_enter Tryz.func53, Tryz.ntmps53
  go_upto_region 1 with fail
  obtain ⟨nb, hnb⟩ : ∃ nb, w.heap.size = nb := ⟨_, rfl⟩
  refine wp_name fun W hW => ?_
  have HH := Lib.hid (show Hav G w nb (nb + 1) (nb + 1) W C ⟨sa, sc, la, lc, wa, wq, ka, kc⟩ G from Hav.open_ H.out HG.out (by omega) (by rw [hW]; simp [hnb]) (by omega) (by rw [hW]; exact (BoxAt.newAt _ _ hnb [_, _, _, _, _, _, _, _, _, _, _, _, _] _).alloc _) (by rw [hW]; exact BoxAt.newAt _ _ (by simp [hnb]) [_, _, _, _, _, _, _, _, _, _, _, _, _] _) (by rw [hW]; go_grown))
  clear hW
  rw [hnb]
  clear hnb
  obtain ⟨x0, x1, x2, x3, x4, x5, x6, x7, x8, x9, x10, x11, x12⟩ := HH.out.x
  cases bi with
  | false =>
    have hD := HD.out
    rw [if_neg (of_decide_eq_false HBI.out)] at hD
    obtain ⟨rfl, rfl, rfl⟩ := (by simpa only [Prod.mk.injEq] using hD : _ ∧ _ ∧ _)
    clear hD HD
    go_upto_region 2 with (go_at_call 51; (refine (HIN.out _).mono ?_); (rintro e w1 ⟨rfl, hb1⟩); (have HH1 := Lib.hid (HH.out.later hb1)); (clear hb1))
    clear x0 x1 x2 x3 x4 x5 x6 x7 x8 x9 x10 x11 x12
    obtain ⟨x0, x1, x2, x3, x4, x5, x6, x7, x8, x9, x10, x11, x12⟩ := HH1.out.x
    obtain ⟨y0, y1, y2, y3, y4, y5, y6, y7, y8, y9, y10, y11, y12⟩ := HH1.out.res.thirteen
    obtain ⟨f0, f1, f2, f3, f4, f5, f6, f7, f8, f9, f10, f11, f12⟩ := HH1.out.res.thirteenF
    go_wp2_with fail
    refine bodyPost_ret (v := .tuple #[refCV C ⟨sa, sc, la, lc, wa, wq, ka, kc⟩, .int .i64 0, .int .i64 2]) (by simp [results, Tryz.results53, go_sem, refCV, y0, y1, y2, y3, y4, y5, y6, y7, y8, y9, y10, y11, y12]) rfl ?_
    exact GivesCS.done HH1.out (grown13 _ (nb + 1) _ _ _ _ _ _ _ _ _ _ _ _ _)
  | true =>
  have hin : Bk.In C.disk id := of_decide_eq_true HBI.out
  have HINP := Lib.hid hin
  have hD := HD.out
  rw [if_pos hin] at hD
  unfold Ch.load at hD
  rw [HA.out] at hD
  clear HD
  have HD := Lib.hid hD
  clear hD hin
  go_upto_region 3 with (go_at_call 51; (refine (HIN.out _).mono ?_); (rintro e w1 ⟨rfl, hb1⟩); (have HH1 := Lib.hid (HH.out.later hb1)); (clear hb1))
  have HAT := Lib.hid (show Calls Tryz.prog 59 #[.agg #[.slice sa C.slots.length sc, .int .i64 (C.hand : Int), .int .i64 (C.disk.blocks : Int), .int .i64 (C.disk.size : Int), .slice la C.disk.lasting.length lc, .slice wa C.disk.waiting.length wq, .bool C.disk.lit, .int .i64 C.disk.after, .int .i64 C.disk.torn, .int .i64 C.disk.cut, .slice ka C.disk.keep.length kc, .bool C.disk.off, .int .i64 C.disk.count], .int .i64 id] w1 fun e w' => e = .returned (.int .i64 a) ∧ Below w1.heap.size w1 w' from by
      have hh := refCat_is HH1.out.ref HH1.out.held HL.out.2 id a HA.out
      unfold refCV at hh
      exact hh)
  clear x0 x1 x2 x3 x4 x5 x6 x7 x8 x9 x10 x11 x12
  obtain ⟨x0, x1, x2, x3, x4, x5, x6, x7, x8, x9, x10, x11, x12⟩ := HH1.out.x
  rcases har with rfl | ⟨ha1, ha2⟩
  · have hD := HD.out
    rw [if_neg (by decide)] at hD
    obtain ⟨D1, i1, k1, hr⟩ : ∃ D1 i1 k1, Ch.room C = (D1, i1, k1) := ⟨_, _, _, rfl⟩
    rw [hr] at hD
    simp only at hD
    have hok1 := HO.out.room
    have hge := Ch.room_geo C
    rw [hr] at hok1 hge
    have HR := Lib.hid hr
    have HOK := Lib.hid hok1
    have HGE := Lib.hid hge
    clear HD
    have HD := Lib.hid hD
    clear hr hok1 hge hD
    go_upto_region 8 with (go_at_call 59; (refine HAT.out.mono ?_); (rintro e w2 ⟨rfl, hb2⟩); (have HH2 := Lib.hid (HH1.out.later hb2)); (clear hb2))
    have HROOM := Lib.hid (show Calls Tryz.prog 60 #[.agg #[.slice sa C.slots.length sc, .int .i64 (C.hand : Int), .int .i64 (C.disk.blocks : Int), .int .i64 (C.disk.size : Int), .slice la C.disk.lasting.length lc, .slice wa C.disk.waiting.length wq, .bool C.disk.lit, .int .i64 C.disk.after, .int .i64 C.disk.torn, .int .i64 C.disk.cut, .slice ka C.disk.keep.length kc, .bool C.disk.off, .int .i64 C.disk.count]] w2 (GivesCS G w2 D1 i1 k1) from by
      have hh := refCroom_is HH2.out.ref HH2.out.held HO.out hn HR.out
      unfold refCV at hh
      exact hh)
    clear x0 x1 x2 x3 x4 x5 x6 x7 x8 x9 x10 x11 x12
    obtain ⟨x0, x1, x2, x3, x4, x5, x6, x7, x8, x9, x10, x11, x12⟩ := HH2.out.x
    go_upto_region 9 with (go_at_call 60; (refine HROOM.out.mono ?_); (rintro e w3 ⟨⟨⟨sa3, sc3, la3, lc3, wa3, wq3, ka3, kc3⟩, rfl, h3⟩, hb3⟩); (have H3 := Lib.hid h3); (have HB3 := Lib.hid hb3); (obtain ⟨y0, y1, y2, y3, y4, y5, y6, y7, y8, y9, y10, y11, y12⟩ := (HH2.out.later hb3).x); (obtain ⟨f0, f1, f2, f3, f4, f5, f6, f7, f8, f9, f10, f11, f12⟩ := (HH2.out.later hb3).f); (clear h3 hb3); (unfold refCV))
    refine wp_name fun V hV => ?_
    have HHV := Lib.hid (show Hav G w nb (nb + 1) (nb + 1) V D1 ⟨sa3, sc3, la3, lc3, wa3, wq3, ka3, kc3⟩ (More G w2 w3) from HH2.out.store H3.out HB3.out (by rw [hV]; exact grown13 w3 nb _ _ _ _ _ _ _ _ _ _ _ _ _) (by rw [hV]; exact (HH2.out.later HB3.out).box.fill13 (.slice sa3 D1.slots.length sc3) (.int .i64 (D1.hand : Int)) (.int .i64 (D1.disk.blocks : Int)) (.int .i64 (D1.disk.size : Int)) (.slice la3 D1.disk.lasting.length lc3) (.slice wa3 D1.disk.waiting.length wq3) (.bool D1.disk.lit) (.int .i64 D1.disk.after) (.int .i64 D1.disk.torn) (.int .i64 D1.disk.cut) (.slice ka3 D1.disk.keep.length kc3) (.bool D1.disk.off) (.int .i64 D1.disk.count)))
    clear hV x0 x1 x2 x3 x4 x5 x6 x7 x8 x9 x10 x11 x12 y0 y1 y2 y3 y4 y5 y6 y7 y8 y9 y10 y11 y12 f0 f1 f2 f3 f4 f5 f6 f7 f8 f9 f10 f11 f12
    obtain ⟨x0, x1, x2, x3, x4, x5, x6, x7, x8, x9, x10, x11, x12⟩ := HHV.out.x
    by_cases hk1 : k1 = 0
    · subst hk1
      have hD := HD.out
      rw [if_neg (by simp)] at hD
      clear HD
      have HD := Lib.hid hD
      clear hD
      cases hoff : D1.disk.off with
      | true =>
        have hD := HD.out
        rw [if_pos hoff] at hD
        obtain ⟨rfl, rfl, rfl⟩ := (by simpa only [Prod.mk.injEq] using hD : _ ∧ _ ∧ _)
        clear hD HD
        have HOFF := Lib.hid hoff
        rw [hoff] at x11
        obtain ⟨y0, y1, y2, y3, y4, y5, y6, y7, y8, y9, y10, y11, y12⟩ := HHV.out.res.thirteen
        obtain ⟨f0, f1, f2, f3, f4, f5, f6, f7, f8, f9, f10, f11, f12⟩ := HHV.out.res.thirteenF
        clear hoff
        go_wp2_with fail
        refine bodyPost_ret (v := .tuple #[refCV D1 ⟨sa3, sc3, la3, lc3, wa3, wq3, ka3, kc3⟩, .int .i64 0, .int .i64 7]) (by simp [results, Tryz.results53, go_sem, refCV, HOFF.out, y0, y1, y2, y3, y4, y5, y6, y7, y8, y9, y10, y11, y12]) rfl ?_
        exact GivesCS.done HHV.out (grown13 _ (nb + 1) _ _ _ _ _ _ _ _ _ _ _ _ _)
      | false =>
        have hD := HD.out
        rw [if_neg (by rw [hoff]; decide)] at hD
        obtain ⟨q, rfl⟩ : ∃ q : Nat, id = (q : Int) := ⟨id.toNat, by have := HINP.out.1; omega⟩
        rw [Int.toNat_natCast] at hD
        obtain ⟨L, hL⟩ : ∃ L, Bk.read D1.disk q = L := ⟨_, rfl⟩
        rw [hL] at hD
        obtain ⟨p2, k2, e2, hP⟩ : ∃ p2 k2 e2, Pg.openAtL L (q : Int) = (p2, k2, e2) := ⟨_, _, _, rfl⟩
        rw [hP] at hD
        simp only at hD
        clear HD
        have HD := Lib.hid hD
        have HLL := Lib.hid hL
        have HPP := Lib.hid hP
        have HOFF := Lib.hid hoff
        have hq : q < D1.disk.blocks := by have h1 := HINP.out.2; have h2 := HGE.out.2.2; omega
        have hh := refRead4_ok HHV.out.disk HOK.out.1.disk q hq L hL
        rw [hoff] at hh
        have HREAD := Lib.hid hh
        rw [hoff] at x11
        clear hh hD hL hP hq hoff
        go_upto_region 14 with (first
          | (go_at_call 81; (refine (refOpenAt8 a4 c4 L (q : Int) p2 k2 e2 HPP.out _ HBY.out).mono ?_); (rintro e w5 ⟨⟨a5, c5, rfl, ho5⟩, hb5⟩); (have HO5 := Lib.hid ho5); (have HB5 := Lib.hid (below_step HB4.out hb5)); (have HB45 := Lib.hid hb5); (clear ho5 hb5))
          | (go_at_call 17; (refine HREAD.out.mono ?_); (rintro e w4 ⟨⟨a4, c4, rfl, hby4, hg4⟩, hb4⟩); (have HBY := Lib.hid hby4); (have HB4 := Lib.hid hb4); (clear hby4 hg4 hb4)))
        obtain ⟨pb, hpb⟩ : ∃ pb, w5.heap.size = pb := ⟨_, rfl⟩
        refine wp_name fun Z hZ => ?_
        have hbZ : Below w5.heap.size w5 Z := by rw [hZ]; exact (Below.refl _ _).alloc (Nat.le_refl _) _
        have HPZ := Lib.hid (show BoxAt Z pb [.int .i64 p2.kind, .int .i64 p2.id, .int .u64 (p2.gen : Int), .slice a5 p2.body.length c5] by rw [hZ]; exact BoxAt.newAt _ _ hpb [_, _, _, _] _)
        have HOZ := Lib.hid (HO5.out.below hbZ (Nat.le_refl _))
        have HBZ := Lib.hid (below_step HB5.out hbZ)
        have HPB := Lib.hid hpb
        clear hZ x0 x1 x2 x3 x4 x5 x6 x7 x8 x9 x10 x11 x12
        rw [hpb]
        clear hpb
        by_cases hk2 : k2 = 0
        · subst hk2
          have hD := HD.out
          rw [if_neg (by simp)] at hD
          have hi1 : i1 < D1.slots.length := by rw [HGE.out.1]; exact HOK.out.2
          have hld : D1.slots.length ≤ 64 := by rw [HGE.out.1]; exact HL.out.2
          have HHZ := Lib.hid (HHV.out.wide HBZ.out)
          have hbgen : p2.body = [] ∨ InG (More (More G w2 w3) V Z) (.slice a5 p2.body.length c5) := .inr fun k hk => .inr (by
            have h1 := HOZ.out.lt k hk
            have h2 := HB4.out.size
            exact ⟨by omega, h1.2⟩)
          obtain ⟨hd1, hd2, hd3⟩ := (by simpa only [Prod.mk.injEq] using hD : _ ∧ _ ∧ _)
          subst hd2 hd3
          have HSET := Lib.hid (show Calls Tryz.prog 61 #[.agg #[.slice sa3 D1.slots.length sc3, .int .i64 (D1.hand : Int), .int .i64 (D1.disk.blocks : Int), .int .i64 (D1.disk.size : Int), .slice la3 D1.disk.lasting.length lc3, .slice wa3 D1.disk.waiting.length wq3, .bool D1.disk.lit, .int .i64 D1.disk.after, .int .i64 D1.disk.torn, .int .i64 D1.disk.cut, .slice ka3 D1.disk.keep.length kc3, .bool D1.disk.off, .int .i64 D1.disk.count], .int .i64 (i1 : Int), .agg #[.int .i64 p2.kind, .int .i64 p2.id, .int .u64 (p2.gen : Int), .slice a5 p2.body.length c5, .bool true, .bool false, .bool true, .int .i64 0]] Z (GivesC (More (More G w2 w3) V Z) Z D) from by
            have hh := refCset_is HHZ.out.ref HHZ.out.held hld i1 hi1 (⟨p2, true, false, true, 0⟩, a5, c5) HOZ.out.bytes hbgen
            rw [show Ch.set D1 i1 (⟨p2, true, false, true, 0⟩, a5, c5).1 = D from hd1] at hh
            unfold refCV slotV at hh
            exact hh)
          clear hD HD hi1 hld hbgen hd1
          obtain ⟨x0, x1, x2, x3, x4, x5, x6, x7, x8, x9, x10, x11, x12⟩ := HHZ.out.x
          obtain ⟨m0, m1, m2, m3⟩ := HPZ.out.four
          go_wp2_with (go_at_call 61; (refine HSET.out.mono ?_); (rintro e w6 ⟨⟨⟨sa6, sc6, la6, lc6, wa6, wq6, ka6, kc6⟩, rfl, h6⟩, hb6⟩); (have H6 := Lib.hid h6); (have HB6 := Lib.hid hb6); (obtain ⟨y0, y1, y2, y3, y4, y5, y6, y7, y8, y9, y10, y11, y12⟩ := (HHZ.out.later hb6).res.thirteen); (obtain ⟨f0, f1, f2, f3, f4, f5, f6, f7, f8, f9, f10, f11, f12⟩ := (HHZ.out.later hb6).res.thirteenF); (clear h6 hb6); (unfold refCV))
          refine bodyPost_ret (v := .tuple #[refCV D ⟨sa6, sc6, la6, lc6, wa6, wq6, ka6, kc6⟩, .int .i64 (i1 : Int), .int .i64 0]) (by simp [results, Tryz.results53, go_sem, refCV, y0, y1, y2, y3, y4, y5, y6, y7, y8, y9, y10, y11, y12]) rfl ?_
          exact GivesCS.doneOf HHZ.out H6.out HB6.out (grown13 _ (nb + 1) _ _ _ _ _ _ _ _ _ _ _ _ _)
        · have hD := HD.out
          rw [if_pos hk2] at hD
          obtain ⟨rfl, rfl, rfl⟩ := (by simpa only [Prod.mk.injEq] using hD : _ ∧ _ ∧ _)
          clear hD HD
          have hkb : ((k2 : Int) == 0) = false := by simp [hk2]
          have HHZ := Lib.hid (HHV.out.later HBZ.out)
          obtain ⟨x0, x1, x2, x3, x4, x5, x6, x7, x8, x9, x10, x11, x12⟩ := HHZ.out.x
          obtain ⟨y0, y1, y2, y3, y4, y5, y6, y7, y8, y9, y10, y11, y12⟩ := HHZ.out.res.thirteen
          obtain ⟨f0, f1, f2, f3, f4, f5, f6, f7, f8, f9, f10, f11, f12⟩ := HHZ.out.res.thirteenF
          clear hk2
          go_wp2_with fail
          refine bodyPost_ret (v := .tuple #[refCV D1 ⟨sa3, sc3, la3, lc3, wa3, wq3, ka3, kc3⟩, .int .i64 0, .int .i64 (k2 : Int)]) (by simp [results, Tryz.results53, go_sem, refCV, y0, y1, y2, y3, y4, y5, y6, y7, y8, y9, y10, y11, y12]) rfl ?_
          exact GivesCS.done HHZ.out (grown13 _ (nb + 1) _ _ _ _ _ _ _ _ _ _ _ _ _)
    · have hD := HD.out
      rw [if_pos hk1] at hD
      obtain ⟨rfl, rfl, rfl⟩ := (by simpa only [Prod.mk.injEq] using hD : _ ∧ _ ∧ _)
      clear hD HD
      have hkb : ((k1 : Int) == 0) = false := by simp [hk1]
      obtain ⟨y0, y1, y2, y3, y4, y5, y6, y7, y8, y9, y10, y11, y12⟩ := HHV.out.res.thirteen
      obtain ⟨f0, f1, f2, f3, f4, f5, f6, f7, f8, f9, f10, f11, f12⟩ := HHV.out.res.thirteenF
      clear hk1
      go_wp2_with fail
      refine bodyPost_ret (v := .tuple #[refCV D1 ⟨sa3, sc3, la3, lc3, wa3, wq3, ka3, kc3⟩, .int .i64 0, .int .i64 (k1 : Int)]) (by simp [results, Tryz.results53, go_sem, refCV, y0, y1, y2, y3, y4, y5, y6, y7, y8, y9, y10, y11, y12]) rfl ?_
      exact GivesCS.done HHV.out (grown13 _ (nb + 1) _ _ _ _ _ _ _ _ _ _ _ _ _)
  · obtain ⟨q, rfl⟩ : ∃ q : Nat, a = (q : Int) := ⟨a.toNat, by omega⟩
    rw [Int.toNat_natCast] at ha2
    have hD := HD.out
    rw [if_pos ha1, Int.toNat_natCast] at hD
    clear HD
    have HD := Lib.hid hD
    clear hD
    go_upto_region 5 with (go_at_call 59; (refine HAT.out.mono ?_); (rintro e w2 ⟨rfl, hb2⟩); (have HH2 := Lib.hid (HH1.out.later hb2)); (clear hb2))
    clear x0 x1 x2 x3 x4 x5 x6 x7 x8 x9 x10 x11 x12
    obtain ⟨x0, x1, x2, x3, x4, x5, x6, x7, x8, x9, x10, x11, x12⟩ := HH2.out.x
    have hq1 : (q : Int) < (C.slots.length : Int) := by omega
    have hq0 : (0 : Int) ≤ (q : Int) := by omega
    obtain ⟨b, o, ba, bc, hsa, e0, e1, e2, e3, e4, e5, e6, e7, hbs, hbg⟩ := HH2.out.ref.slotAt ha2
    simp only at hsa
    subst hsa
    have HBS := Lib.hid hbs
    have HBG := Lib.hid hbg
    have HLT := Lib.hid ha2
    clear hbs hbg
    obtain ⟨x, hx⟩ : ∃ x, Ch.slot C q = x := ⟨_, rfl⟩
    rw [hx] at e0 e1 e2 e3 e4 e5 e6 e7 HBS HBG
    have hD := HD.out
    rw [hx] at hD
    clear hx
    obtain ⟨page, full, dirty, used, pins⟩ := x
    simp only at e0 e1 e2 e3 e4 e5 e6 e7 HBS HBG hD
    obtain ⟨hd1, hd2, hd3⟩ := (by simpa only [Prod.mk.injEq] using hD : _ ∧ _ ∧ _)
    subst hd2 hd3
    have HD1 := Lib.hid hd1
    clear hD HD hd1
    go_upto_region 7 with fail
    obtain ⟨pb, hpb⟩ : ∃ pb, w2.heap.size = pb := ⟨_, rfl⟩
    refine wp_name fun Z hZ => ?_
    have hS : BoxAt Z pb [.int .i64 page.kind, .int .i64 page.id, .int .u64 (page.gen : Int), .slice ba page.body.length bc, .bool full, .bool dirty, .bool true, .int .i64 pins] := by rw [hZ]; first | exact BoxAt.newAt _ _ hpb [_, _, _, _, _, _, _, _] _ | (rw [hpb]; exact (BoxAt.newAt _ _ hpb [_, _, _, _, _, _, _, _] _).put 6 (.bool true))
    have hbZ : Below w2.heap.size w2 Z := by rw [hZ]; go_grown
    have HS := Lib.hid hS
    have HHZ := Lib.hid (HH2.out.later hbZ)
    have HSET := Lib.hid (show Calls Tryz.prog 61 #[.agg #[.slice (some ⟨b, o, none⟩) C.slots.length sc, .int .i64 (C.hand : Int), .int .i64 (C.disk.blocks : Int), .int .i64 (C.disk.size : Int), .slice la C.disk.lasting.length lc, .slice wa C.disk.waiting.length wq, .bool C.disk.lit, .int .i64 C.disk.after, .int .i64 C.disk.torn, .int .i64 C.disk.cut, .slice ka C.disk.keep.length kc, .bool C.disk.off, .int .i64 C.disk.count], .int .i64 (q : Int), .agg #[.int .i64 page.kind, .int .i64 page.id, .int .u64 (page.gen : Int), .slice ba page.body.length bc, .bool full, .bool dirty, .bool true, .int .i64 pins]] Z (GivesC G Z D) from by
      have hh := refCset_is HHZ.out.ref HHZ.out.held HL.out.2 q HLT.out (⟨page, full, dirty, true, pins⟩, ba, bc) (HBS.out.below hbZ) HBG.out
      rw [show Ch.set C q (⟨page, full, dirty, true, pins⟩, ba, bc).1 = D from HD1.out] at hh
      unfold refCV slotV at hh
      exact hh)
    clear hZ hS hbZ x0 x1 x2 x3 x4 x5 x6 x7 x8 x9 x10 x11 x12 e0 e1 e2 e3 e4 e5 e6 e7
    rw [hpb]
    clear hpb
    obtain ⟨x0, x1, x2, x3, x4, x5, x6, x7, x8, x9, x10, x11, x12⟩ := HHZ.out.x
    obtain ⟨m0, m1, m2, m3, m4, m5, m6, m7⟩ := HS.out.eight
    go_wp2_with (go_at_call 61; (refine HSET.out.mono ?_); (rintro e w6 ⟨⟨⟨sa6, sc6, la6, lc6, wa6, wq6, ka6, kc6⟩, rfl, h6⟩, hb6⟩); (have H6 := Lib.hid h6); (have HB6 := Lib.hid hb6); (obtain ⟨y0, y1, y2, y3, y4, y5, y6, y7, y8, y9, y10, y11, y12⟩ := (HHZ.out.later hb6).res.thirteen); (obtain ⟨f0, f1, f2, f3, f4, f5, f6, f7, f8, f9, f10, f11, f12⟩ := (HHZ.out.later hb6).res.thirteenF); (clear h6 hb6); (unfold refCV))
    refine bodyPost_ret (v := .tuple #[refCV D ⟨sa6, sc6, la6, lc6, wa6, wq6, ka6, kc6⟩, .int .i64 (q : Int), .int .i64 0]) (by simp [results, Tryz.results53, go_sem, refCV, y0, y1, y2, y3, y4, y5, y6, y7, y8, y9, y10, y11, y12]) rfl ?_
    exact GivesCS.doneOf HHZ.out H6.out HB6.out (grown13 _ (nb + 1) _ _ _ _ _ _ _ _ _ _ _ _ _)
end Go.Proofs.YtflbioiildndoaaGreatDoor

