/- the document's caches: Put (printed by wip/tools/rc/mk_refcput.py and gen_refc.py) -/
import Derived.Test.YtflbioiildndoaaGreatDoorRefC6
namespace Go.Proofs.YtflbioiildndoaaGreatDoor
open Go.RowKit
set_option linter.unusedVariables false
set_option linter.unusedSimpArgs false

theorem Ch.put_place {C : Ch.Cache} {p : Pg.Page} (hid : Bk.In C.disk p.id) (hc : Pg.checkC p C.disk.size = 0) {D1 : Ch.Cache} {i1 k1 : Nat} (h : Ch.place C p.id = (D1, i1, k1)) : Ch.put C p = if k1 = 0 then (Ch.set D1 i1 ⟨p, true, true, true, (Ch.slot D1 i1).pins⟩, 0) else (D1, k1) := by
  unfold Ch.put
  rw [if_pos hid, if_pos hc, h]
theorem Pg.check_one {p : Pg.Page} {size : Int} (h : 256 ≤ size ∧ size ≤ 1024) (hc : Pg.checkC p size ≠ 0) : Pg.checkC p size = 1 := by
  unfold Pg.checkC at hc ⊢
  have hs : Pg.sized size = true := by unfold Pg.sized; simp [h.1, h.2]
  rw [hs] at hc ⊢
  simp only [Bool.true_eq_false, if_false] at hc ⊢
  split at hc
  · rename_i h1; rw [if_pos h1]
  · exact absurd rfl hc

set_option maxRecDepth 100000 in
set_option maxHeartbeats 8000000 in
theorem refCput_is {G : Nat → Prop} {w : World} {n : Nat} {C D : Ch.Cache} {kk : Nat} {s : Shp} (h : RefC G w C s) (hG : Held G w) (ho : Ch.Ok n C) (ht : Ch.Tidy C) (hn : n ≤ 1000) (p : Pg.Page) (a : Option Addr) (cc : Nat) (hby : BytesAt w (.slice a p.body.length cc) p.body) (hpl : p.body.length ≤ 100000) (hD : Ch.put C p = (D, kk)) :
    Calls Tryz.prog 37 #[refCV C s, .agg #[.int .i64 p.kind, .int .i64 p.id, .int .u64 (p.gen : Int), .slice a p.body.length cc]] w (GivesCK G w D kk) := by
  have hl := ho.len
  have hsz := ho.disk.s
  obtain ⟨at1, ha⟩ : ∃ at1, Ch.at_ C p.id = at1 := ⟨_, rfl⟩
  have har := Ch.at_range C p.id
  obtain ⟨bi, hbi⟩ : ∃ bi, decide (Bk.In C.disk p.id) = bi := ⟨_, rfl⟩
  obtain ⟨K, hK⟩ : ∃ K : Nat, Pg.checkC p (C.disk.size : Int) = K := ⟨_, rfl⟩
  rw [ha] at har
  have HG := Lib.hid hG
  have HO := Lib.hid ho
  have HT := Lib.hid ht
  have HA := Lib.hid ha
  have HAR := Lib.hid har
  have HBI := Lib.hid hbi
  have HK := Lib.hid hK
  have HD := Lib.hid hD
  have HL := Lib.hid hl
  have HSZ := Lib.hid hsz
  have HBY := Lib.hid hby
  obtain ⟨sa, sc, la, lc, wa, wq, ka, kc⟩ := s
  have H := Lib.hid h
  have HIN := Lib.hid (fun (w1 : World) => show Calls Tryz.prog 51 #[.agg #[.int .i64 (C.disk.blocks : Int), .int .i64 (C.disk.size : Int), .slice la C.disk.lasting.length lc, .slice wa C.disk.waiting.length wq, .bool C.disk.lit, .int .i64 C.disk.after, .int .i64 C.disk.torn, .int .i64 C.disk.cut, .slice ka C.disk.keep.length kc, .bool C.disk.off, .int .i64 C.disk.count], .int .i64 p.id] w1 fun e w' => e = .returned (.bool bi) ∧ Below w1.heap.size w1 w' from refIn4_is C.disk _ _ _ p.id bi hbi w1)
  have HCK := Lib.hid (fun (w1 : World) => refCheck_is p a cc (C.disk.size : Int) (K : Int) (by rw [hK]) w1 (by omega) (by omega))
  unfold refCV
  clear h hG ho ht ha har hbi hK hD hl hsz hby
  go_enter Tryz.func37, Tryz.ntmps37
  go_upto_region 1 with fail
  obtain ⟨nb, hnb⟩ : ∃ nb, w.heap.size = nb := ⟨_, rfl⟩
  refine wp_name fun W hW => ?_
  have HH := Lib.hid (show Hav G w nb (nb + 1 + 1) (nb + 1) W C ⟨sa, sc, la, lc, wa, wq, ka, kc⟩ G from Hav.open_ H.out HG.out (by omega) (by rw [hW]; simp [hnb]) (by omega) (by rw [hW]; exact ((BoxAt.newAt _ _ hnb [_, _, _, _, _, _, _, _, _, _, _, _, _] _).alloc _).alloc _) (by rw [hW]; exact BoxAt.newAt _ _ (by simp [hnb]) [_, _, _, _, _, _, _, _, _, _, _, _, _] _) (by rw [hW]; go_grown))
  have HP := Lib.hid (show BoxAt W (nb + 1) [.int .i64 p.kind, .int .i64 p.id, .int .u64 (p.gen : Int), .slice a p.body.length cc] by rw [hW]; exact (BoxAt.newAt _ _ (by simp [hnb]) [_, _, _, _] _).alloc _)
  clear hW
  rw [hnb]
  clear hnb
  obtain ⟨x0, x1, x2, x3, x4, x5, x6, x7, x8, x9, x10, x11, x12⟩ := HH.out.x
  obtain ⟨r0, r1, r2, r3⟩ := HP.out.four
  cases bi with
  | false =>
    have hD := HD.out
    unfold Ch.put at hD
    rw [if_neg (of_decide_eq_false HBI.out)] at hD
    obtain ⟨rfl, rfl⟩ := (by simpa only [Prod.mk.injEq] using hD : _ ∧ _)
    clear hD HD
    go_upto_region 2 with (go_at_call 51; (refine (HIN.out _).mono ?_); (rintro e w1 ⟨rfl, hb1⟩); (have HH1 := Lib.hid (HH.out.later hb1)); (clear hb1))
    clear x0 x1 x2 x3 x4 x5 x6 x7 x8 x9 x10 x11 x12
    obtain ⟨x0, x1, x2, x3, x4, x5, x6, x7, x8, x9, x10, x11, x12⟩ := HH1.out.x
    obtain ⟨y0, y1, y2, y3, y4, y5, y6, y7, y8, y9, y10, y11, y12⟩ := HH1.out.res.thirteen
    obtain ⟨f0, f1, f2, f3, f4, f5, f6, f7, f8, f9, f10, f11, f12⟩ := HH1.out.res.thirteenF
    go_wp2_with fail
    refine bodyPost_ret (v := .tuple #[refCV C ⟨sa, sc, la, lc, wa, wq, ka, kc⟩, .int .i64 2]) (by simp [results, Tryz.results37, go_sem, refCV, y0, y1, y2, y3, y4, y5, y6, y7, y8, y9, y10, y11, y12]) rfl ?_
    exact GivesCK.done HH1.out (grown13 _ (nb + 1 + 1) _ _ _ _ _ _ _ _ _ _ _ _ _)
  | true =>
  go_upto_region 3 with (go_at_call 51; (refine (HIN.out _).mono ?_); (rintro e w1 ⟨rfl, hb1⟩); (have HH1 := Lib.hid (HH.out.later hb1)); (have HP1 := Lib.hid (HP.out.below hb1)); (clear hb1))
  clear x0 x1 x2 x3 x4 x5 x6 x7 x8 x9 x10 x11 x12 r0 r1 r2 r3
  obtain ⟨x0, x1, x2, x3, x4, x5, x6, x7, x8, x9, x10, x11, x12⟩ := HH1.out.x
  obtain ⟨r0, r1, r2, r3⟩ := HP1.out.four
  by_cases hK0 : K = 0
  · subst hK0
    go_upto_region 5 with (go_at_call 58; (refine (HCK.out _).mono ?_); (rintro e w2 ⟨rfl, hb2⟩); (have HH2 := Lib.hid (HH1.out.later hb2)); (have HP2 := Lib.hid (HP1.out.below hb2)); (clear hb2))
    clear x0 x1 x2 x3 x4 x5 x6 x7 x8 x9 x10 x11 x12 r0 r1 r2 r3
    obtain ⟨x0, x1, x2, x3, x4, x5, x6, x7, x8, x9, x10, x11, x12⟩ := HH2.out.x
    obtain ⟨r0, r1, r2, r3⟩ := HP2.out.four
    have HAT := Lib.hid (show Calls Tryz.prog 59 #[.agg #[.slice sa C.slots.length sc, .int .i64 (C.hand : Int), .int .i64 (C.disk.blocks : Int), .int .i64 (C.disk.size : Int), .slice la C.disk.lasting.length lc, .slice wa C.disk.waiting.length wq, .bool C.disk.lit, .int .i64 C.disk.after, .int .i64 C.disk.torn, .int .i64 C.disk.cut, .slice ka C.disk.keep.length kc, .bool C.disk.off, .int .i64 C.disk.count], .int .i64 p.id] w2 fun e w' => e = .returned (.int .i64 at1) ∧ Below w2.heap.size w2 w' from by
      have hh := refCat_is HH2.out.ref HH2.out.held HL.out.2 p.id at1 HA.out
      unfold refCV at hh
      exact hh)
    obtain ⟨D1, i1, k1, hpl1⟩ : ∃ D1 i1 k1, Ch.place C p.id = (D1, i1, k1) := ⟨_, _, _, rfl⟩
    have hpok := HO.out.place hpl1
    have HTP := Lib.hid (Ch.Tidy.place HO.out HT.out hpl1)
    have hD := (Ch.put_place (of_decide_eq_true HBI.out) HK.out hpl1).symm.trans HD.out
    clear HD
    have HD := Lib.hid hD
    have HPOK := Lib.hid hpok
    unfold Ch.place at hpl1
    rw [HA.out] at hpl1
    have HPL := Lib.hid hpl1
    rw [HA.out] at HTP
    clear hD hpl1 hpok
    rcases HAR.out with rfl | ⟨ha1, ha2⟩
    · have HR := Lib.hid (show Ch.room C = (D1, i1, k1) by have := HPL.out; rw [if_neg (by decide)] at this; exact this)
      have HLN := Lib.hid (show D1.slots.length ≤ 64 ∧ i1 < D1.slots.length from ⟨by rw [HPOK.out.2.2.1]; exact HL.out.2, HPOK.out.2.1⟩)
      go_upto_region 10 with (go_at_call 59; (refine HAT.out.mono ?_); (rintro e w3 ⟨rfl, hb3⟩); (have HH3 := Lib.hid (HH2.out.later hb3)); (have HP3 := Lib.hid (HP2.out.below hb3)); (clear hb3))
      clear x0 x1 x2 x3 x4 x5 x6 x7 x8 x9 x10 x11 x12 r0 r1 r2 r3
      obtain ⟨x0, x1, x2, x3, x4, x5, x6, x7, x8, x9, x10, x11, x12⟩ := HH3.out.x
      have HROOM := Lib.hid (show Calls Tryz.prog 60 #[.agg #[.slice sa C.slots.length sc, .int .i64 (C.hand : Int), .int .i64 (C.disk.blocks : Int), .int .i64 (C.disk.size : Int), .slice la C.disk.lasting.length lc, .slice wa C.disk.waiting.length wq, .bool C.disk.lit, .int .i64 C.disk.after, .int .i64 C.disk.torn, .int .i64 C.disk.cut, .slice ka C.disk.keep.length kc, .bool C.disk.off, .int .i64 C.disk.count]] w3 (GivesCS G w3 D1 i1 k1) from by
        have hh := refCroom_is HH3.out.ref HH3.out.held HO.out hn HR.out
        unfold refCV at hh
        exact hh)
      go_upto_region 11 with (go_at_call 60; (refine HROOM.out.mono ?_); (rintro e w4 ⟨⟨⟨sa3, sc3, la3, lc3, wa3, wq3, ka3, kc3⟩, rfl, h4⟩, hb4⟩); (have H4 := Lib.hid h4); (have HB4 := Lib.hid hb4); (obtain ⟨y0, y1, y2, y3, y4, y5, y6, y7, y8, y9, y10, y11, y12⟩ := (HH3.out.later hb4).x); (obtain ⟨f0, f1, f2, f3, f4, f5, f6, f7, f8, f9, f10, f11, f12⟩ := (HH3.out.later hb4).f); (clear h4 hb4); (unfold refCV))
      refine wp_name fun V hV => ?_
      have hgV : w4.grownBy V (some nb) := by rw [hV]; exact grown13 w4 nb _ _ _ _ _ _ _ _ _ _ _ _ _
      have HHV := Lib.hid (show Hav G w nb (nb + 1 + 1) (nb + 1) V D1 ⟨sa3, sc3, la3, lc3, wa3, wq3, ka3, kc3⟩ (More G w3 w4) from HH3.out.store H4.out HB4.out hgV (by rw [hV]; exact (HH3.out.later HB4.out).box.fill13 (.slice sa3 D1.slots.length sc3) (.int .i64 (D1.hand : Int)) (.int .i64 (D1.disk.blocks : Int)) (.int .i64 (D1.disk.size : Int)) (.slice la3 D1.disk.lasting.length lc3) (.slice wa3 D1.disk.waiting.length wq3) (.bool D1.disk.lit) (.int .i64 D1.disk.after) (.int .i64 D1.disk.torn) (.int .i64 D1.disk.cut) (.slice ka3 D1.disk.keep.length kc3) (.bool D1.disk.off) (.int .i64 D1.disk.count)))
      have HPV := Lib.hid (show BoxAt V (nb + 1) [.int .i64 p.kind, .int .i64 p.id, .int .u64 (p.gen : Int), .slice a p.body.length cc] from (HP3.out.below HB4.out).on (hgV.block _ (by have := HP3.out.lt; have := HB4.out.size; omega) (by simp)))
      clear hV hgV HB4 H4 HROOM HAT x0 x1 x2 x3 x4 x5 x6 x7 x8 x9 x10 x11 x12 y0 y1 y2 y3 y4 y5 y6 y7 y8 y9 y10 y11 y12 f0 f1 f2 f3 f4 f5 f6 f7 f8 f9 f10 f11 f12
      obtain ⟨x0, x1, x2, x3, x4, x5, x6, x7, x8, x9, x10, x11, x12⟩ := HHV.out.x
      obtain ⟨r0, r1, r2, r3⟩ := HPV.out.four
      by_cases hk1 : k1 = 0
      · subst hk1
        have hD := HD.out
        rw [if_pos rfl, HTP.out.2 (by decide) rfl] at hD
        obtain ⟨hd1, hd2⟩ := (by simpa only [Prod.mk.injEq] using hD : _ ∧ _)
        subst hd2
        have HD1 := Lib.hid hd1
        clear hD HD hd1
        have HBYV := Lib.hid (HBY.out.below HHV.out.below)
        go_upto_region 14 with fail
        obtain ⟨ob, hob⟩ : ∃ ob, V.heap.size = ob := ⟨_, rfl⟩
        refine wp_name fun V2 hV2 => ?_
        have hbV2 : Below V.heap.size V V2 := by rw [hV2]; exact (Below.refl _ _).alloc (Nat.le_refl _) _
        have HO2 := Lib.hid (show BoxAt V2 ob [.int .i64 p.kind, .int .i64 p.id, .int .u64 (p.gen : Int), .slice a p.body.length cc] by rw [hV2]; exact BoxAt.newAt _ _ hob [_, _, _, _] _)
        have HH2 := Lib.hid (HHV.out.wide hbV2)
        have HP2 := Lib.hid (HPV.out.below hbV2)
        have HB2 := Lib.hid hbV2
        have HBY2 := Lib.hid (HBYV.out.below hbV2)
        have HOB := Lib.hid hob
        clear hV2 hbV2 x0 x1 x2 x3 x4 x5 x6 x7 x8 x9 x10 x11 x12 r0 r1 r2 r3
        rw [hob]
        clear hob
        have r3 : (V2.alloc (.cells #[] 5)).cell? ⟨nb + 1, 3, none⟩ = some (.slice a p.body.length cc) := (HP2.out.alloc _).at 3 _ rfl
        go_upto_region 15 with (at_builtin; (refine wpList_append_bytes rfl (.tmp 48) (.tmp 50) rfl V2.heap.size _ [] rfl (Own.empty V2 _ (Nat.le_refl _)) _ p.body rfl (HBY2.out.alloc _) (by simp; omega) (by simp) ?_); (intro v9 w9 ho9 hg9 hn9); (obtain ⟨a9, c9, rfl, -, -⟩ := ho9.slice); (have HB9 := Lib.hid (((Below.refl V2.heap.size V2).alloc (Nat.le_refl _) (.cells #[] 5)).grown hg9 (by simp) (by intro k hk; cases hk; exact Nat.le_refl _))); (have HO9 := Lib.hid (show Own w9 V2.heap.size (.slice a9 p.body.length c9) p.body from ho9)); (obtain ⟨s0, s1, s2, s3⟩ := (HO2.out.below HB9.out).four); (have s4 := (HO2.out.below HB9.out).free 3 _ rfl); (clear ho9 hg9 hn9))
        refine wp_name fun V5 hV5 => ?_
        have hg5 : w9.grownBy V5 (some ob) := by rw [hV5]; exact grownBy_set (World.grownBy.refl _ _) _ _
        have hx5 : BoxAt V5 ob [.int .i64 p.kind, .int .i64 p.id, .int .u64 (p.gen : Int), .slice a9 p.body.length c9] := by rw [hV5]; exact (HO2.out.below HB9.out).put 3 (.slice a9 p.body.length c9)
        have hob1 : V.heap.size ≤ ob ∧ ob < V2.heap.size := ⟨Nat.le_of_eq HOB.out, HO2.out.lt⟩
        have hs2 := HB2.out.size
        have hs9 := HB9.out.size
        have hs5 := hg5.size
        have hb5 : Below V.heap.size V V5 := (below_step HB2.out HB9.out).trans (below_of_grown hg5 hob1.1 (by omega))
        have HH5 := Lib.hid (HHV.out.wide hb5)
        have HX5 := Lib.hid hx5
        have HO5 := Lib.hid (show BytesAt V5 (.slice a9 p.body.length c9) p.body from HO9.out.bytes.on fun k hk => hg5.block k (HO9.out.lt k hk).2 (by intro e; have e1 := Option.some.inj e; have e2 := (HO9.out.lt k hk).1; omega))
        have hbG : p.body = [] ∨ InG (More (More G w3 w4) V V5) (.slice a9 p.body.length c9) := .inr fun k hk => .inr (by have := HO9.out.lt k hk; omega)
        have HSET := Lib.hid (show Calls Tryz.prog 61 #[.agg #[.slice sa3 D1.slots.length sc3, .int .i64 (D1.hand : Int), .int .i64 (D1.disk.blocks : Int), .int .i64 (D1.disk.size : Int), .slice la3 D1.disk.lasting.length lc3, .slice wa3 D1.disk.waiting.length wq3, .bool D1.disk.lit, .int .i64 D1.disk.after, .int .i64 D1.disk.torn, .int .i64 D1.disk.cut, .slice ka3 D1.disk.keep.length kc3, .bool D1.disk.off, .int .i64 D1.disk.count], .int .i64 (i1 : Int), .agg #[.int .i64 p.kind, .int .i64 p.id, .int .u64 (p.gen : Int), .slice a9 p.body.length c9, .bool true, .bool true, .bool true, .int .i64 0]] V5 (GivesC (More (More G w3 w4) V V5) V5 D) from by
          have hh := refCset_is HH5.out.ref HH5.out.held HLN.out.1 i1 HLN.out.2 (⟨p, true, true, true, 0⟩, a9, c9) HO5.out hbG
          rw [show Ch.set D1 i1 (⟨p, true, true, true, 0⟩, a9, c9).1 = D from HD1.out] at hh
          unfold refCV slotV at hh
          exact hh)
        clear hV5 hg5 hx5 hob1 hs2 hs9 hs5 hb5 hbG r3 s0 s1 s2 s3 s4
        obtain ⟨x0, x1, x2, x3, x4, x5, x6, x7, x8, x9, x10, x11, x12⟩ := HH5.out.x
        obtain ⟨m0, m1, m2, m3⟩ := HX5.out.four
        go_wp2_with (go_at_call 61; (refine HSET.out.mono ?_); (rintro e w6 ⟨⟨⟨sa6, sc6, la6, lc6, wa6, wq6, ka6, kc6⟩, rfl, h6⟩, hb6⟩); (have H6 := Lib.hid h6); (have HB6 := Lib.hid hb6); (obtain ⟨y0, y1, y2, y3, y4, y5, y6, y7, y8, y9, y10, y11, y12⟩ := (HH5.out.later hb6).res.thirteen); (obtain ⟨f0, f1, f2, f3, f4, f5, f6, f7, f8, f9, f10, f11, f12⟩ := (HH5.out.later hb6).res.thirteenF); (clear h6 hb6); (unfold refCV))
        refine bodyPost_ret (v := .tuple #[refCV D ⟨sa6, sc6, la6, lc6, wa6, wq6, ka6, kc6⟩, .int .i64 0]) (by simp [results, Tryz.results37, go_sem, refCV, y0, y1, y2, y3, y4, y5, y6, y7, y8, y9, y10, y11, y12]) rfl ?_
        exact GivesCK.doneOf HH5.out H6.out HB6.out (grown13 _ (nb + 1 + 1) _ _ _ _ _ _ _ _ _ _ _ _ _)
      · have hD := HD.out
        rw [if_neg hk1] at hD
        obtain ⟨rfl, rfl⟩ := (by simpa only [Prod.mk.injEq] using hD : _ ∧ _)
        clear hD HD
        have hkb : ((k1 : Int) == 0) = false := by simp [hk1]
        obtain ⟨y0, y1, y2, y3, y4, y5, y6, y7, y8, y9, y10, y11, y12⟩ := HHV.out.res.thirteen
        obtain ⟨f0, f1, f2, f3, f4, f5, f6, f7, f8, f9, f10, f11, f12⟩ := HHV.out.res.thirteenF
        clear hk1
        go_wp2_with fail
        refine bodyPost_ret (v := .tuple #[refCV D1 ⟨sa3, sc3, la3, lc3, wa3, wq3, ka3, kc3⟩, .int .i64 (k1 : Int)]) (by simp [results, Tryz.results37, go_sem, refCV, y0, y1, y2, y3, y4, y5, y6, y7, y8, y9, y10, y11, y12]) rfl ?_
        exact GivesCK.done HHV.out (grown13 _ (nb + 1 + 1) _ _ _ _ _ _ _ _ _ _ _ _ _)
    · obtain ⟨q, rfl⟩ : ∃ q : Nat, at1 = (q : Int) := ⟨at1.toNat, by omega⟩
      rw [Int.toNat_natCast] at ha2
      have hP := HPL.out
      rw [if_pos ha1, Int.toNat_natCast] at hP
      obtain ⟨rfl, rfl, rfl⟩ := (by simpa only [Prod.mk.injEq] using hP : _ ∧ _ ∧ _)
      have hD := HD.out
      rw [if_pos rfl] at hD
      obtain ⟨hd1, hd2⟩ := (by simpa only [Prod.mk.injEq] using hD : _ ∧ _)
      subst hd2
      have HLN := Lib.hid (show C.slots.length ≤ 64 ∧ q < C.slots.length from ⟨HL.out.2, ha2⟩)
      have hq1 : (q : Int) < (C.slots.length : Int) := by omega
      have hq0 : (0 : Int) ≤ (q : Int) := by omega
      obtain ⟨P, hPP⟩ : ∃ P, (Ch.slot C q).pins = P := ⟨_, rfl⟩
      rw [hPP] at hd1
      have HD1 := Lib.hid hd1
      have HPP := Lib.hid hPP
      clear hD HD hd1 hP ha2 hPP
      go_upto_region 8 with (go_at_call 59; (refine HAT.out.mono ?_); (rintro e w3 ⟨rfl, hb3⟩); (have HH3 := Lib.hid (HH2.out.later hb3)); (have HP3 := Lib.hid (HP2.out.below hb3)); (clear hb3))
      clear x0 x1 x2 x3 x4 x5 x6 x7 x8 x9 x10 x11 x12 r0 r1 r2 r3
      obtain ⟨b, o, ba, bc, hsa, e0, e1, e2, e3, e4, e5, e6, e7, hbs, hbg⟩ := HH3.out.ref.slotAt HLN.out.2
      simp only at hsa
      subst hsa
      rw [HPP.out] at e7
      clear hbs hbg e0 e1 e2 e3 e4 e5 e6
      obtain ⟨x0, x1, x2, x3, x4, x5, x6, x7, x8, x9, x10, x11, x12⟩ := HH3.out.x
      obtain ⟨r0, r1, r2, r3⟩ := HP3.out.four
      go_upto_region 13 with fail
      clear e7
      have HBYV := Lib.hid (HBY.out.below HH3.out.below)
      go_upto_region 14 with fail
      obtain ⟨ob, hob⟩ : ∃ ob, w3.heap.size = ob := ⟨_, rfl⟩
      refine wp_name fun V2 hV2 => ?_
      have hbV2 : Below w3.heap.size w3 V2 := by rw [hV2]; exact (Below.refl _ _).alloc (Nat.le_refl _) _
      have HO2 := Lib.hid (show BoxAt V2 ob [.int .i64 p.kind, .int .i64 p.id, .int .u64 (p.gen : Int), .slice a p.body.length cc] by rw [hV2]; exact BoxAt.newAt _ _ hob [_, _, _, _] _)
      have HH2 := Lib.hid (HH3.out.wide hbV2)
      have HP2 := Lib.hid (HP3.out.below hbV2)
      have HB2 := Lib.hid hbV2
      have HBY2 := Lib.hid (HBYV.out.below hbV2)
      have HOB := Lib.hid hob
      clear hV2 hbV2 x0 x1 x2 x3 x4 x5 x6 x7 x8 x9 x10 x11 x12 r0 r1 r2 r3
      rw [hob]
      clear hob
      have r3 : (V2.alloc (.cells #[] 5)).cell? ⟨nb + 1, 3, none⟩ = some (.slice a p.body.length cc) := (HP2.out.alloc _).at 3 _ rfl
      go_upto_region 15 with (at_builtin; (refine wpList_append_bytes rfl (.tmp 48) (.tmp 50) rfl V2.heap.size _ [] rfl (Own.empty V2 _ (Nat.le_refl _)) _ p.body rfl (HBY2.out.alloc _) (by simp; omega) (by simp) ?_); (intro v9 w9 ho9 hg9 hn9); (obtain ⟨a9, c9, rfl, -, -⟩ := ho9.slice); (have HB9 := Lib.hid (((Below.refl V2.heap.size V2).alloc (Nat.le_refl _) (.cells #[] 5)).grown hg9 (by simp) (by intro k hk; cases hk; exact Nat.le_refl _))); (have HO9 := Lib.hid (show Own w9 V2.heap.size (.slice a9 p.body.length c9) p.body from ho9)); (obtain ⟨s0, s1, s2, s3⟩ := (HO2.out.below HB9.out).four); (have s4 := (HO2.out.below HB9.out).free 3 _ rfl); (clear ho9 hg9 hn9))
      refine wp_name fun V5 hV5 => ?_
      have hg5 : w9.grownBy V5 (some ob) := by rw [hV5]; exact grownBy_set (World.grownBy.refl _ _) _ _
      have hx5 : BoxAt V5 ob [.int .i64 p.kind, .int .i64 p.id, .int .u64 (p.gen : Int), .slice a9 p.body.length c9] := by rw [hV5]; exact (HO2.out.below HB9.out).put 3 (.slice a9 p.body.length c9)
      have hob1 : w3.heap.size ≤ ob ∧ ob < V2.heap.size := ⟨Nat.le_of_eq HOB.out, HO2.out.lt⟩
      have hs2 := HB2.out.size
      have hs9 := HB9.out.size
      have hs5 := hg5.size
      have hb5 : Below w3.heap.size w3 V5 := (below_step HB2.out HB9.out).trans (below_of_grown hg5 hob1.1 (by omega))
      have HH5 := Lib.hid (HH3.out.wide hb5)
      have HX5 := Lib.hid hx5
      have HO5 := Lib.hid (show BytesAt V5 (.slice a9 p.body.length c9) p.body from HO9.out.bytes.on fun k hk => hg5.block k (HO9.out.lt k hk).2 (by intro e; have e1 := Option.some.inj e; have e2 := (HO9.out.lt k hk).1; omega))
      have hbG : p.body = [] ∨ InG (More G w3 V5) (.slice a9 p.body.length c9) := .inr fun k hk => .inr (by have := HO9.out.lt k hk; omega)
      have HSET := Lib.hid (show Calls Tryz.prog 61 #[.agg #[.slice (some ⟨b, o, none⟩) C.slots.length sc, .int .i64 (C.hand : Int), .int .i64 (C.disk.blocks : Int), .int .i64 (C.disk.size : Int), .slice la C.disk.lasting.length lc, .slice wa C.disk.waiting.length wq, .bool C.disk.lit, .int .i64 C.disk.after, .int .i64 C.disk.torn, .int .i64 C.disk.cut, .slice ka C.disk.keep.length kc, .bool C.disk.off, .int .i64 C.disk.count], .int .i64 (q : Int), .agg #[.int .i64 p.kind, .int .i64 p.id, .int .u64 (p.gen : Int), .slice a9 p.body.length c9, .bool true, .bool true, .bool true, .int .i64 P]] V5 (GivesC (More G w3 V5) V5 D) from by
        have hh := refCset_is HH5.out.ref HH5.out.held HLN.out.1 q HLN.out.2 (⟨p, true, true, true, P⟩, a9, c9) HO5.out hbG
        rw [show Ch.set C q (⟨p, true, true, true, P⟩, a9, c9).1 = D from HD1.out] at hh
        unfold refCV slotV at hh
        exact hh)
      clear hV5 hg5 hx5 hob1 hs2 hs9 hs5 hb5 hbG r3 s0 s1 s2 s3 s4
      obtain ⟨x0, x1, x2, x3, x4, x5, x6, x7, x8, x9, x10, x11, x12⟩ := HH5.out.x
      obtain ⟨m0, m1, m2, m3⟩ := HX5.out.four
      go_wp2_with (go_at_call 61; (refine HSET.out.mono ?_); (rintro e w6 ⟨⟨⟨sa6, sc6, la6, lc6, wa6, wq6, ka6, kc6⟩, rfl, h6⟩, hb6⟩); (have H6 := Lib.hid h6); (have HB6 := Lib.hid hb6); (obtain ⟨y0, y1, y2, y3, y4, y5, y6, y7, y8, y9, y10, y11, y12⟩ := (HH5.out.later hb6).res.thirteen); (obtain ⟨f0, f1, f2, f3, f4, f5, f6, f7, f8, f9, f10, f11, f12⟩ := (HH5.out.later hb6).res.thirteenF); (clear h6 hb6); (unfold refCV))
      refine bodyPost_ret (v := .tuple #[refCV D ⟨sa6, sc6, la6, lc6, wa6, wq6, ka6, kc6⟩, .int .i64 0]) (by simp [results, Tryz.results37, go_sem, refCV, y0, y1, y2, y3, y4, y5, y6, y7, y8, y9, y10, y11, y12]) rfl ?_
      exact GivesCK.doneOf HH5.out H6.out HB6.out (grown13 _ (nb + 1 + 1) _ _ _ _ _ _ _ _ _ _ _ _ _)
  · have hD := HD.out
    unfold Ch.put at hD
    rw [if_pos (of_decide_eq_true HBI.out), if_neg (by rw [HK.out]; exact hK0), Pg.check_one (by have := HSZ.out; omega) (by rw [HK.out]; exact hK0)] at hD
    obtain ⟨rfl, rfl⟩ := (by simpa only [Prod.mk.injEq] using hD : _ ∧ _)
    clear hD HD
    have hkb : ((K : Int) == 0) = false := by simp [hK0]
    clear hK0
    go_upto_region 4 with (go_at_call 58; (refine (HCK.out _).mono ?_); (rintro e w2 ⟨rfl, hb2⟩); (have HH2 := Lib.hid (HH1.out.later hb2)); (clear hb2))
    clear x0 x1 x2 x3 x4 x5 x6 x7 x8 x9 x10 x11 x12
    obtain ⟨x0, x1, x2, x3, x4, x5, x6, x7, x8, x9, x10, x11, x12⟩ := HH2.out.x
    obtain ⟨y0, y1, y2, y3, y4, y5, y6, y7, y8, y9, y10, y11, y12⟩ := HH2.out.res.thirteen
    obtain ⟨f0, f1, f2, f3, f4, f5, f6, f7, f8, f9, f10, f11, f12⟩ := HH2.out.res.thirteenF
    go_wp2_with fail
    refine bodyPost_ret (v := .tuple #[refCV C ⟨sa, sc, la, lc, wa, wq, ka, kc⟩, .int .i64 1]) (by simp [results, Tryz.results37, go_sem, refCV, y0, y1, y2, y3, y4, y5, y6, y7, y8, y9, y10, y11, y12]) rfl ?_
    exact GivesCK.done HH2.out (grown13 _ (nb + 1 + 1) _ _ _ _ _ _ _ _ _ _ _ _ _)
end Go.Proofs.YtflbioiildndoaaGreatDoor

