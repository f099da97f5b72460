/- the document's caches: Drop, Flush, Unpin (printed by wip/tools/gen_refc.py from rc/refcflush.txt) -/
import Derived.Test.YtflbioiildndoaaGreatDoorRefC6
namespace Go.Proofs.YtflbioiildndoaaGreatDoor
open Go.RowKit
set_option linter.unusedVariables false
set_option linter.unusedSimpArgs false

/-- what a call of the document's leaves: a cache and a truth -/
def GivesCB (G : Nat → Prop) (w : World) (C : Ch.Cache) (b : Bool) (e : Ending) (w' : World) : Prop := (∃ s, e = .returned (.tuple #[refCV C s, .bool b]) ∧ RefC (More G w w') w' C s) ∧ Below w.heap.size w w'

set_option maxRecDepth 100000 in
set_option maxHeartbeats 8000000 in
theorem refCdrop_is {G : Nat → Prop} {w : World} {n : Nat} {C D : Ch.Cache} {bb : Bool} {s : Shp} (h : RefC G w C s) (hG : Held G w) (ho : Ch.Ok n C) (id : Int) (hD : Ch.drop C id = (D, bb)) :
    Calls Tryz.prog 73 #[refCV C s, .int .i64 id] w (GivesCB G w D bb) := by
  have hl := ho.len
  obtain ⟨a, ha⟩ : ∃ a, Ch.at_ C id = a := ⟨_, rfl⟩
  have har := Ch.at_range C id
  unfold Ch.drop at hD
  rw [ha] at har hD
  have HG := Lib.hid hG
  have HA := Lib.hid ha
  have HD := Lib.hid hD
  have HL := Lib.hid hl
  have HAR := Lib.hid har
  obtain ⟨sa, sc, la, lc, wa, wq, ka, kc⟩ := s
  have H := Lib.hid h
  unfold refCV
  clear h hG ho ha hD hl har
  go_enter Tryz.func73, Tryz.ntmps73
  go_upto_region 1 with fail
  obtain ⟨nb, hnb⟩ : ∃ nb, w.heap.size = nb := ⟨_, rfl⟩
  refine wp_name fun W hW => ?_
  have HH := Lib.hid (show Hav G w nb (nb + 1) (nb + 1) W C ⟨sa, sc, la, lc, wa, wq, ka, kc⟩ G from Hav.open_ H.out HG.out (by omega) (by rw [hW]; simp [hnb]) (by omega) (by rw [hW]; exact (BoxAt.newAt _ _ hnb [_, _, _, _, _, _, _, _, _, _, _, _, _] _).alloc _) (by rw [hW]; exact BoxAt.newAt _ _ (by simp [hnb]) [_, _, _, _, _, _, _, _, _, _, _, _, _] _) (by rw [hW]; go_grown))
  clear hW
  rw [hnb]
  clear hnb
  have HAT := Lib.hid (show Calls Tryz.prog 59 #[.agg #[.slice sa C.slots.length sc, .int .i64 (C.hand : Int), .int .i64 (C.disk.blocks : Int), .int .i64 (C.disk.size : Int), .slice la C.disk.lasting.length lc, .slice wa C.disk.waiting.length wq, .bool C.disk.lit, .int .i64 C.disk.after, .int .i64 C.disk.torn, .int .i64 C.disk.cut, .slice ka C.disk.keep.length kc, .bool C.disk.off, .int .i64 C.disk.count], .int .i64 id] W fun e w' => e = .returned (.int .i64 a) ∧ Below W.heap.size W w' from by
    have hh := refCat_is HH.out.ref HH.out.held HL.out.2 id a HA.out
    unfold refCV at hh
    exact hh)
  obtain ⟨x0, x1, x2, x3, x4, x5, x6, x7, x8, x9, x10, x11, x12⟩ := HH.out.x
  rcases HAR.out with rfl | ⟨ha1, ha2⟩
  · have hD := HD.out
    rw [if_neg (by decide)] at hD
    obtain ⟨rfl, rfl⟩ := (by simpa only [Prod.mk.injEq] using hD : _ ∧ _)
    clear hD HD
    go_upto_region 3 with (go_at_call 59; (refine HAT.out.mono ?_); (rintro e w2 ⟨rfl, hb2⟩); (have HH2 := Lib.hid (HH.out.later hb2)); (clear hb2))
    clear x0 x1 x2 x3 x4 x5 x6 x7 x8 x9 x10 x11 x12
    obtain ⟨x0, x1, x2, x3, x4, x5, x6, x7, x8, x9, x10, x11, x12⟩ := HH2.out.x
    obtain ⟨y0, y1, y2, y3, y4, y5, y6, y7, y8, y9, y10, y11, y12⟩ := HH2.out.res.thirteen
    obtain ⟨f0, f1, f2, f3, f4, f5, f6, f7, f8, f9, f10, f11, f12⟩ := HH2.out.res.thirteenF
    go_wp2_with fail
    refine bodyPost_ret (v := .tuple #[refCV C ⟨sa, sc, la, lc, wa, wq, ka, kc⟩, .bool false]) (by simp [results, Tryz.results73, go_sem, refCV, y0, y1, y2, y3, y4, y5, y6, y7, y8, y9, y10, y11, y12]) rfl ?_
    exact ⟨⟨_, rfl, (HH2.out.done (grown13 _ (nb + 1) _ _ _ _ _ _ _ _ _ _ _ _ _)).1⟩, (HH2.out.done (grown13 _ (nb + 1) _ _ _ _ _ _ _ _ _ _ _ _ _)).2⟩
  · obtain ⟨q, rfl⟩ : ∃ q : Nat, a = (q : Int) := ⟨a.toNat, by omega⟩
    rw [Int.toNat_natCast] at ha2
    have hD := HD.out
    rw [if_pos ha1, Int.toNat_natCast] at hD
    obtain ⟨hd1, hd2⟩ := (by simpa only [Prod.mk.injEq] using hD : _ ∧ _)
    subst hd2
    have HD1 := Lib.hid hd1
    have HLT := Lib.hid ha2
    have hq1 : ¬ (q : Int) < 0 := by omega
    clear hD HD hd1 ha2
    go_upto_region 4 with (go_at_call 59; (refine HAT.out.mono ?_); (rintro e w2 ⟨rfl, hb2⟩); (have HH2 := Lib.hid (HH.out.later hb2)); (clear hb2))
    clear x0 x1 x2 x3 x4 x5 x6 x7 x8 x9 x10 x11 x12
    obtain ⟨x0, x1, x2, x3, x4, x5, x6, x7, x8, x9, x10, x11, x12⟩ := HH2.out.x
    have HSET := Lib.hid (show Calls Tryz.prog 61 #[.agg #[.slice sa C.slots.length sc, .int .i64 (C.hand : Int), .int .i64 (C.disk.blocks : Int), .int .i64 (C.disk.size : Int), .slice la C.disk.lasting.length lc, .slice wa C.disk.waiting.length wq, .bool C.disk.lit, .int .i64 C.disk.after, .int .i64 C.disk.torn, .int .i64 C.disk.cut, .slice ka C.disk.keep.length kc, .bool C.disk.off, .int .i64 C.disk.count], .int .i64 (q : Int), .agg #[.int .i64 0, .int .i64 0, .int .u64 0, .slice none 0 0, .bool false, .bool false, .bool false, .int .i64 0]] w2 (GivesC G w2 D) from by
      have hh := refCset_is HH2.out.ref HH2.out.held HL.out.2 q HLT.out (Ch.Slot.zero, none, 0) (BytesAt.nil w2) (.inl rfl)
      rw [show Ch.set C q (Ch.Slot.zero, (none : Option Addr), 0).1 = D from HD1.out] at hh
      unfold refCV at hh
      exact hh)
    go_wp2_with (go_at_call 61; (refine HSET.out.mono ?_); (rintro e w6 ⟨⟨⟨sa6, sc6, la6, lc6, wa6, wq6, ka6, kc6⟩, rfl, h6⟩, hb6⟩); (have H6 := Lib.hid h6); (have HB6 := Lib.hid hb6); (obtain ⟨y0, y1, y2, y3, y4, y5, y6, y7, y8, y9, y10, y11, y12⟩ := (HH2.out.later hb6).res.thirteen); (obtain ⟨f0, f1, f2, f3, f4, f5, f6, f7, f8, f9, f10, f11, f12⟩ := (HH2.out.later hb6).res.thirteenF); (clear h6 hb6); (unfold refCV))
    refine bodyPost_ret (v := .tuple #[refCV D ⟨sa6, sc6, la6, lc6, wa6, wq6, ka6, kc6⟩, .bool true]) (by simp [results, Tryz.results73, go_sem, refCV, y0, y1, y2, y3, y4, y5, y6, y7, y8, y9, y10, y11, y12]) rfl ?_
    exact ⟨⟨_, rfl, (HH2.out.doneOf H6.out HB6.out (grown13 _ (nb + 1) _ _ _ _ _ _ _ _ _ _ _ _ _)).1⟩, (HH2.out.doneOf H6.out HB6.out (grown13 _ (nb + 1) _ _ _ _ _ _ _ _ _ _ _ _ _)).2⟩

set_option maxRecDepth 100000 in
set_option maxHeartbeats 8000000 in
theorem refCflush_is {G : Nat → Prop} {w : World} {n : Nat} {C D : Ch.Cache} {kk : Nat} {s : Shp} (h : RefC G w C s) (hG : Held G w) (ho : Ch.Ok n C) (hn : n ≤ 900) (hD : Ch.flush C = (D, kk)) :
    Calls Tryz.prog 12 #[refCV C s] w (GivesCK G w D kk) := by
  have hl := ho.len
  obtain ⟨N, hN⟩ : ∃ N, C.slots.length = N := ⟨_, rfl⟩
  have HG := Lib.hid hG
  have HO := Lib.hid ho
  have HN := Lib.hid hN
  have HD := Lib.hid (show Ch.flushK C 0 N = (D, kk) by rw [← hN]; exact hD)
  obtain ⟨sa, sc, la, lc, wa, wq, ka, kc⟩ := s
  have H := Lib.hid h
  unfold refCV
  rw [hN] at hl
  clear h hG ho hD hN
  go_enter Tryz.func12, Tryz.ntmps12
  go_upto_region 1 with fail
  obtain ⟨nb, hnb⟩ : ∃ nb, w.heap.size = nb := ⟨_, rfl⟩
  refine wp_name fun W hW => ?_
  have HH := Lib.hid (show Hav G w nb (nb + 1) (nb + 1) W C ⟨sa, sc, la, lc, wa, wq, ka, kc⟩ G from Hav.open_ H.out HG.out (by omega) (by rw [hW]; simp [hnb]) (by omega) (by rw [hW]; exact (BoxAt.newAt _ _ hnb [_, _, _, _, _, _, _, _, _, _, _, _, _] _).alloc _) (by rw [hW]; exact BoxAt.newAt _ _ (by simp [hnb]) [_, _, _, _, _, _, _, _, _, _, _, _, _] _) (by rw [hW]; go_grown))
  clear hW
  rw [hnb]
  clear hnb
  go_wp2_with fail
  go_loopw [4] (fun i' wr => ∃ (j : Nat) (Cj : Ch.Cache) (sj : Shp) (Xj : Nat → Prop), j ≤ N ∧ i' = .int .i64 j ∧ Ch.flushK Cj j (N - j) = (D, kk) ∧ Ch.Ok (n + j) Cj ∧ Cj.slots.length = N ∧ Hav G w nb (nb + 1) (nb + 1) wr Cj sj Xj) (fun i' _ => N - (intOf i').toNat)
  case atStart => exact ⟨0, C, ⟨sa, sc, la, lc, wa, wq, ka, kc⟩, G, by omega, rfl, HD.out, HO.out, HN.out, HH.out⟩
  case round =>
    clear HH HD HO
    obtain ⟨j, Cj, ⟨sa2, sc2, la2, lc2, wa2, wq2, ka2, kc2⟩, Xj, hj, rfl, hfk, hok, hlj, hhj⟩ := hrel
    have HFK := Lib.hid hfk
    have HOK := Lib.hid hok
    have HLJ := Lib.hid hlj
    have HHJ := Lib.hid hhj
    clear hfk hok hlj hhj
    obtain ⟨x0, x1, x2, x3, x4, x5, x6, x7, x8, x9, x10, x11, x12⟩ := HHJ.out.x
    rw [HLJ.out] at x0
    by_cases hlt : j < N
    · have hlt1 : (j : Int) < (N : Int) := by omega
      obtain ⟨D1, k1, hw⟩ : ∃ D1 k1, Ch.write Cj j = (D1, k1) := ⟨_, _, rfl⟩
      have HST := Lib.hid (HFK.out.symm.trans (Ch.flushK_step hlt hw))
      have hok1 := HOK.out.write (i := j) (by rw [HLJ.out]; exact hlt)
      have hge := Ch.write_geo Cj j
      rw [hw] at hok1 hge
      have HOK1 := Lib.hid hok1
      have HGE := Lib.hid hge.1
      have HWRITE := Lib.hid (show Calls Tryz.prog 40 #[.agg #[.slice sa2 N sc2, .int .i64 (Cj.hand : Int), .int .i64 (Cj.disk.blocks : Int), .int .i64 (Cj.disk.size : Int), .slice la2 Cj.disk.lasting.length lc2, .slice wa2 Cj.disk.waiting.length wq2, .bool Cj.disk.lit, .int .i64 Cj.disk.after, .int .i64 Cj.disk.torn, .int .i64 Cj.disk.cut, .slice ka2 Cj.disk.keep.length kc2, .bool Cj.disk.off, .int .i64 Cj.disk.count], .int .i64 (j : Int)] wr (GivesCK Xj wr D1 k1) from by
        have hh := refCwrite_is HHJ.out.ref HHJ.out.held HOK.out (by omega) j (by rw [HLJ.out]; exact hlt) hw
        unfold refCV at hh
        rw [HLJ.out] at hh
        exact hh)
      clear hw hok1 hge
      go_upto_region 5 with (go_at_call 40; (refine HWRITE.out.mono ?_); (rintro e w3 ⟨⟨⟨sa3, sc3, la3, lc3, wa3, wq3, ka3, kc3⟩, rfl, h3⟩, hb3⟩); (have H3 := Lib.hid h3); (have HB3 := Lib.hid hb3); (clear h3 hb3); (unfold refCV))
      obtain ⟨ob, hob⟩ : ∃ ob, w3.heap.size = ob := ⟨_, rfl⟩
      refine wp_name fun V hV => ?_
      have hbV : Below w3.heap.size w3 V := by rw [hV]; exact (Below.refl _ _).alloc (Nat.le_refl _) _
      have HOB := Lib.hid (show BoxAt V ob [.slice sa3 D1.slots.length sc3, .int .i64 (D1.hand : Int), .int .i64 (D1.disk.blocks : Int), .int .i64 (D1.disk.size : Int), .slice la3 D1.disk.lasting.length lc3, .slice wa3 D1.disk.waiting.length wq3, .bool D1.disk.lit, .int .i64 D1.disk.after, .int .i64 D1.disk.torn, .int .i64 D1.disk.cut, .slice ka3 D1.disk.keep.length kc3, .bool D1.disk.off, .int .i64 D1.disk.count] by rw [hV]; exact BoxAt.newAt _ _ hob [_, _, _, _, _, _, _, _, _, _, _, _, _] _)
      have HBV := Lib.hid (below_step HB3.out hbV)
      have H3V := Lib.hid (show RefC (More Xj wr V) V D1 ⟨sa3, sc3, la3, lc3, wa3, wq3, ka3, kc3⟩ from (H3.out.on fun k hk => hbV.block k (by
        have h1 := HB3.out.size
        rcases hk with hk | hk
        · have := HHJ.out.held k hk; omega
        · exact hk.2)).mono fun k hk => hk.imp id fun h => ⟨h.1, Nat.lt_of_lt_of_le h.2 hbV.size⟩)
      clear hV hbV x0 x1 x2 x3 x4 x5 x6 x7 x8 x9 x10 x11 x12
      rw [hob]
      clear hob
      obtain ⟨z0, z1, z2, z3, z4, z5, z6, z7, z8, z9, z10, z11, z12⟩ := HOB.out.thirteen
      by_cases hk1 : k1 = 0
      · subst hk1
        have HF1 := Lib.hid (show Ch.flushK D1 (j + 1) (N - (j + 1)) = (D, kk) by have := HST.out; rw [if_pos rfl] at this; exact this.symm)
        obtain ⟨y0, y1, y2, y3, y4, y5, y6, y7, y8, y9, y10, y11, y12⟩ := (HHJ.out.later HBV.out).x
        obtain ⟨f0, f1, f2, f3, f4, f5, f6, f7, f8, f9, f10, f11, f12⟩ := (HHJ.out.later HBV.out).f
        go_wp2_with fail
        go_roundw
        case rel => exact ⟨j + 1, D1, ⟨sa3, sc3, la3, lc3, wa3, wq3, ka3, kc3⟩, _, by omega, by go_num, HF1.out, HOK1.out, HGE.out.trans HLJ.out, HHJ.out.store H3V.out HBV.out (grown13 V nb _ _ _ _ _ _ _ _ _ _ _ _ _) ((HHJ.out.later HBV.out).box.fill13 (.slice sa3 D1.slots.length sc3) (.int .i64 (D1.hand : Int)) (.int .i64 (D1.disk.blocks : Int)) (.int .i64 (D1.disk.size : Int)) (.slice la3 D1.disk.lasting.length lc3) (.slice wa3 D1.disk.waiting.length wq3) (.bool D1.disk.lit) (.int .i64 D1.disk.after) (.int .i64 D1.disk.torn) (.int .i64 D1.disk.cut) (.slice ka3 D1.disk.keep.length kc3) (.bool D1.disk.off) (.int .i64 D1.disk.count))⟩
        case measure => simp [intOf]; omega
      · have hD1 : (D, kk) = (D1, k1) := HST.out.trans (if_neg hk1)
        obtain ⟨rfl, rfl⟩ := (by simpa only [Prod.mk.injEq] using hD1 : _ ∧ _)
        have hkb : ((kk : Int) == 0) = false := by simp [hk1]
        obtain ⟨y0, y1, y2, y3, y4, y5, y6, y7, y8, y9, y10, y11, y12⟩ := (HHJ.out.later HBV.out).res.thirteen
        obtain ⟨f0, f1, f2, f3, f4, f5, f6, f7, f8, f9, f10, f11, f12⟩ := (HHJ.out.later HBV.out).res.thirteenF
        clear hk1 hD1
        go_wp2_with fail
        refine bodyPost_ret (v := .tuple #[refCV D ⟨sa3, sc3, la3, lc3, wa3, wq3, ka3, kc3⟩, .int .i64 (kk : Int)]) (by simp [results, Tryz.results12, go_sem, refCV, y0, y1, y2, y3, y4, y5, y6, y7, y8, y9, y10, y11, y12]) rfl ?_
        exact GivesCK.doneOf HHJ.out H3V.out HBV.out (grown13 _ (nb + 1) _ _ _ _ _ _ _ _ _ _ _ _ _)
    · obtain rfl : j = N := by omega
      have hD1 : (Cj, 0) = (D, kk) := by have := HFK.out; rw [Nat.sub_self] at this; exact this
      obtain ⟨rfl, rfl⟩ := (by simpa only [Prod.mk.injEq] using hD1 : _ ∧ _)
      obtain ⟨y0, y1, y2, y3, y4, y5, y6, y7, y8, y9, y10, y11, y12⟩ := HHJ.out.res.thirteen
      obtain ⟨f0, f1, f2, f3, f4, f5, f6, f7, f8, f9, f10, f11, f12⟩ := HHJ.out.res.thirteenF
      clear hD1
      go_wp2_with fail
      refine bodyPost_ret (v := .tuple #[refCV Cj ⟨sa2, sc2, la2, lc2, wa2, wq2, ka2, kc2⟩, .int .i64 0]) (by simp [results, Tryz.results12, go_sem, refCV, HLJ.out, y0, y1, y2, y3, y4, y5, y6, y7, y8, y9, y10, y11, y12]) rfl ?_
      exact GivesCK.done HHJ.out (grown13 _ (nb + 1) _ _ _ _ _ _ _ _ _ _ _ _ _)
end Go.Proofs.YtflbioiildndoaaGreatDoor

