/- the document's caches: room -/
import Derived.Test.YtflbioiildndoaaGreatDoorRefC4
namespace Go.Proofs.YtflbioiildndoaaGreatDoor
open Go.RowKit
set_option linter.unusedVariables false
set_option linter.unusedSimpArgs false

/-- what a call of the document's leaves: a cache, a slot's number, a code -/
def GivesCS (G : Nat → Prop) (w : World) (C : Ch.Cache) (i k : Nat) (e : Ending) (w' : World) : Prop := (∃ s, e = .returned (.tuple #[refCV C s, .int .i64 (i : Int), .int .i64 (k : Int)]) ∧ RefC (More G w w') w' C s) ∧ Below w.heap.size w w'
theorem GivesCS.fin {G G2 : Nat → Prop} {w V W : World} {C : Ch.Cache} {s : Shp} {i k rb : Nat} (h : RefC G2 V C s) (hG2 : ∀ k, G2 k → (G k ∨ w.heap.size ≤ k) ∧ k < V.heap.size ∧ k ≠ rb) (hrw : w.heap.size ≤ rb) (hb : Below w.heap.size w V) (hg : V.grownBy W (some rb)) : GivesCS G w C i k (.returned (.tuple #[refCV C s, .int .i64 (i : Int), .int .i64 (k : Int)])) W :=
  ⟨⟨s, rfl, (h.fin hG2 hrw hb hg).1⟩, (h.fin hG2 hrw hb hg).2⟩

/-- a box of thirteen cells that is stored anew, its world under a name -/
theorem BoxAt.fill13s {w : World} {r : Nat} {a0 a1 a2 a3 a4 a5 a6 a7 a8 a9 a10 a11 a12 : Value} (h : BoxAt w r [a0, a1, a2, a3, a4, a5, a6, a7, a8, a9, a10, a11, a12]) (v0 v1 v2 v3 v4 v5 v6 v7 v8 v9 v10 v11 v12 : Value) : ∃ Z, Z = (((((((((((((w.setCell ⟨r, 0, none⟩ v0).setCell ⟨r, 1, none⟩ v1).setCell ⟨r, 2, none⟩ v2).setCell ⟨r, 3, none⟩ v3).setCell ⟨r, 4, none⟩ v4).setCell ⟨r, 5, none⟩ v5).setCell ⟨r, 6, none⟩ v6).setCell ⟨r, 7, none⟩ v7).setCell ⟨r, 8, none⟩ v8).setCell ⟨r, 9, none⟩ v9).setCell ⟨r, 10, none⟩ v10).setCell ⟨r, 11, none⟩ v11).setCell ⟨r, 12, none⟩ v12) ∧ BoxAt Z r [v0, v1, v2, v3, v4, v5, v6, v7, v8, v9, v10, v11, v12] ∧ w.grownBy Z (some r) :=
  ⟨_, rfl, h.fill13 v0 v1 v2 v3 v4 v5 v6 v7 v8 v9 v10 v11 v12, grown13 w r v0 v1 v2 v3 v4 v5 v6 v7 v8 v9 v10 v11 v12⟩

set_option maxRecDepth 100000 in
set_option maxHeartbeats 8000000 in
theorem refCroom_is {G : Nat → Prop} {w : World} {n : Nat} {C D : Ch.Cache} {i kk : Nat} {s : Shp} (h : RefC G w C s) (hG : Held G w) (ho : Ch.Ok n C) (hn : n ≤ 1000) (hD : Ch.room C = (D, i, kk)) :
    Calls Tryz.prog 60 #[refCV C s] w (GivesCS G w D i kk) := by
  obtain ⟨N, hN⟩ : ∃ N, C.slots.length = N := ⟨_, rfl⟩
  have hl := ho.len
  obtain ⟨r, hr⟩ : ∃ r, Ch.empty C = r := ⟨_, rfl⟩
  have H := Lib.hid h
  have HG := Lib.hid hG
  have HN := Lib.hid hN
  have HO := Lib.hid ho
  have HRE := Lib.hid hr
  have hrr : r = -1 ∨ (0 ≤ r ∧ r < C.slots.length) := by
    rw [← hr]
    rcases Ch.firstK_range (fun s => !s.full) C C.slots.length 0 with h1 | ⟨h1, h2, _⟩
    · exact .inl h1
    · exact .inr ⟨by simpa [Ch.empty] using h1, by simpa [Ch.empty] using h2⟩
  have HD := Lib.hid (show (if 0 ≤ r then (C, r.toNat, 0) else Ch.round C 0 (2 * C.slots.length)) = (D, i, kk) by rw [← hr]; exact hD)
  obtain ⟨sa, sc, la, lc, wa, wq, ka, kc⟩ := s
  have HEM := Lib.hid (fun (w1 : World) (hb : Below w.heap.size w w1) => show Calls Tryz.prog 84 #[.agg #[.slice sa N sc, .int .i64 (C.hand : Int), .int .i64 (C.disk.blocks : Int), .int .i64 (C.disk.size : Int), .slice la C.disk.lasting.length lc, .slice wa C.disk.waiting.length wq, .bool C.disk.lit, .int .i64 C.disk.after, .int .i64 C.disk.torn, .int .i64 C.disk.cut, .slice ka C.disk.keep.length kc, .bool C.disk.off, .int .i64 C.disk.count]] w1 (fun e w' => e = .returned (.int .i64 r) ∧ Below w1.heap.size w1 w') from by
    have := refCempty_is (H.out.below HG.out hb) (HG.out.more hb.size) hl.2 r HRE.out
    unfold refCV at this
    rw [hN] at this
    exact this)
  unfold refCV
  rw [hN] at hl ⊢ hrr
  clear h hG hN ho hD hr
  go_enter Tryz.func60, Tryz.ntmps60
  go_upto_region 1 with fail
  obtain ⟨nb, hnb⟩ : ∃ nb, w.heap.size = nb := ⟨_, rfl⟩
  refine wp_name fun W hW => ?_
  have HX := Lib.hid (show BoxAt W nb [.slice sa N sc, .int .i64 (C.hand : Int), .int .i64 (C.disk.blocks : Int), .int .i64 (C.disk.size : Int), .slice la C.disk.lasting.length lc, .slice wa C.disk.waiting.length wq, .bool C.disk.lit, .int .i64 C.disk.after, .int .i64 C.disk.torn, .int .i64 C.disk.cut, .slice ka C.disk.keep.length kc, .bool C.disk.off, .int .i64 C.disk.count] by rw [hW]; exact (BoxAt.newAt _ _ hnb [_, _, _, _, _, _, _, _, _, _, _, _, _] _).alloc _)
  have HY := Lib.hid (show BoxAt W (nb + 1) zeroC by rw [hW]; exact BoxAt.newAt _ _ (by simp [hnb]) [_, _, _, _, _, _, _, _, _, _, _, _, _] _)
  have HB := Lib.hid (show Below w.heap.size w W by rw [hW]; go_grown)
  have HNB := Lib.hid hnb
  have hW2 : nb + 1 < W.heap.size := HY.out.lt
  clear hW
  rw [hnb]
  clear hnb
  obtain ⟨x0, x1, x2, x3, x4, x5, x6, x7, x8, x9, x10, x11, x12⟩ := HX.out.thirteen
  rcases hrr with rfl | ⟨hr1, hr2⟩
  · have HR := Lib.hid (show Ch.round C 0 (2 * N) = (D, i, kk) by have := HD.out; rw [if_neg (by decide), HN.out] at this; exact this)
    clear HD
    go_upto_region 3 with (go_at_call 84; (refine (HEM.out _ HB.out).mono ?_); (rintro e w1 ⟨rfl, hb1⟩); (have HB1 := Lib.hid hb1); (clear hb1))
    have HX1 := Lib.hid (HX.out.below HB1.out)
    have HY1 := Lib.hid (HY.out.below HB1.out)
    have HBW1 := Lib.hid (below_step HB.out HB1.out)
    clear x0 x1 x2 x3 x4 x5 x6 x7 x8 x9 x10 x11 x12
    have x0 := HX1.out.at 0 _ rfl
    have hnw := HNB.out
    clear hnw
    go_wp2_with fail
    go_loopw [6] (fun i' wr => ∃ (j : Nat) (Cj : Ch.Cache) (sj : Shp) (Gj : Nat → Prop), j ≤ 2 * N ∧ i' = .int .i64 j ∧ Ch.round Cj j (2 * N - j) = (D, i, kk) ∧ Ch.Ok n Cj ∧ Cj.slots.length = N ∧ RefC Gj wr Cj sj ∧ BoxAt wr nb (cellsC Cj sj) ∧ BoxAt wr (nb + 1) zeroC ∧ (∀ k, Gj k → (G k ∨ w.heap.size ≤ k) ∧ k < wr.heap.size ∧ k ≠ nb ∧ k ≠ nb + 1) ∧ Below w.heap.size w wr) (fun i' _ => 2 * N - (intOf i').toNat)
    case atStart =>
      exact ⟨0, C, ⟨sa, sc, la, lc, wa, wq, ka, kc⟩, G, by omega, rfl, HR.out, HO.out, HN.out, H.out.below HG.out HBW1.out, by unfold cellsC; rw [HN.out]; exact HX1.out, HY1.out, fun k hk => by
        have h1 := HG.out k hk
        have h2 := HBW1.out.size
        have h3 := HNB.out
        exact ⟨.inl hk, by omega, by omega, by omega⟩, HBW1.out⟩
    case round =>
      obtain ⟨j, Cj, ⟨ta, tc, pa, pc, ra, rc, oa, oc⟩, Gj, hj, rfl, hrd, hok, hlj, hrj, hxj, hyj, hgj, hbj⟩ := hrel
      unfold cellsC at hxj
      rw [hlj] at hxj
      simp only at hxj
      have hhand := hok.hand
      rw [hlj] at hhand
      have HRD := Lib.hid hrd
      have HOK := Lib.hid hok
      have HLJ := Lib.hid hlj
      have HRJ := Lib.hid hrj
      have HXJ := Lib.hid hxj
      have HYJ := Lib.hid hyj
      have HGJ := Lib.hid hgj
      have HBJ := Lib.hid hbj
      have HHJ := Lib.hid (show Held Gj wr from fun k hk => (hgj k hk).2.1)
      have hws : nb + 1 < wr.heap.size := hyj.lt
      clear hrd hok hlj hrj hxj hyj hgj hbj x0
      obtain ⟨x0, x1, x2, x3, x4, x5, x6, x7, x8, x9, x10, x11, x12⟩ := HXJ.out.thirteen
      by_cases hlt2 : j < 2 * N
      · obtain ⟨q, hq⟩ : ∃ q, (Cj.hand + j) % N = q := ⟨_, rfl⟩
        have hqk : q < N := by rw [← hq]; exact Nat.mod_lt _ (by omega)
        have HST := Lib.hid (Ch.round_step Cj j (2 * N) q hlt2 (by rw [HLJ.out]; exact hq))
        rw [HLJ.out] at HST
        have g1 : (j : Int) < 2 * (N : Int) := by omega
        have g2 : IntKind.i64.wrap ((Cj.hand : Int) + (j : Int)) = (Cj.hand : Int) + (j : Int) := IntWalk.i64_in _ (by omega)
        have g3 : ((Cj.hand : Int) + (j : Int)).tmod (N : Int) = (q : Int) := by rw [← hq]; rw [Int.tmod_eq_emod_of_nonneg (by omega)]; push_cast; rfl
        have g4 : (q : Int) < (N : Int) := by omega
        have g5 : ¬ (N : Int) = 0 := by omega
        have hqs : q < Cj.slots.length := by rw [HLJ.out]; exact hqk
        obtain ⟨b, o, ba, bc, hta, e0, e1, e2, e3, e4, e5, e6, e7, hbs, hbg⟩ := HRJ.out.slotAt (i := q) hqs
        simp only at hta
        subst hta
        have HBS := Lib.hid hbs
        have HBG := Lib.hid hbg
        clear hq hbs hbg
        have HSLO := Lib.hid (HOK.out.slot hqs)
        obtain ⟨x, hx⟩ : ∃ x, Ch.slot Cj q = x := ⟨_, rfl⟩
        have HXS := Lib.hid hx
        rw [hx] at e0 e1 e2 e3 e4 e5 e6 e7 HST HSLO HBS HBG
        clear hx
        have HREL := Lib.hid (show ∀ W2 : World, Below wr.heap.size wr W2 → RefC Gj W2 Cj ⟨some ⟨b, o, none⟩, tc, pa, pc, ra, rc, oa, oc⟩ ∧ BoxAt W2 nb (cellsC Cj ⟨some ⟨b, o, none⟩, tc, pa, pc, ra, rc, oa, oc⟩) ∧ BoxAt W2 (nb + 1) zeroC ∧ (∀ k, Gj k → (G k ∨ w.heap.size ≤ k) ∧ k < W2.heap.size ∧ k ≠ nb ∧ k ≠ nb + 1) ∧ Below w.heap.size w W2 from fun W2 hb => ⟨HRJ.out.below HHJ.out hb, by unfold cellsC; rw [HLJ.out]; exact HXJ.out.below hb, HYJ.out.below hb, fun k hk => by
          obtain ⟨q1, q2, q3, q4⟩ := HGJ.out k hk
          exact ⟨q1, Nat.lt_of_lt_of_le q2 hb.size, q3, q4⟩, below_step HBJ.out hb⟩)
        obtain ⟨page, full, dirty, used, pins⟩ := x
        simp only at e0 e1 e2 e3 e4 e5 e6 e7 HBS HBG
        by_cases hp : 0 < pins
        · have HST' := Lib.hid (HST.out.trans (if_pos hp))
          clear HST
          go_wp2_with fail
          go_roundw
          case rel => exact ⟨j + 1, Cj, ⟨some ⟨b, o, none⟩, tc, pa, pc, ra, rc, oa, oc⟩, Gj, by omega, by go_num, by rw [← HST'.out]; exact HRD.out, HOK.out, HLJ.out, HREL.out _ ((Below.refl _ _).alloc (Nat.le_refl _) _)⟩
          case measure => simp [intOf]; omega
        · cases used with
          | true =>
            have HST' := Lib.hid (HST.out.trans ((if_neg hp).trans (if_pos rfl)))
            clear HST
            go_upto_region 17 with fail
            obtain ⟨sb, hsb⟩ : ∃ sb, wr.heap.size = sb := ⟨_, rfl⟩
            refine wp_name fun V hV => ?_
            have hS : BoxAt V sb [.int .i64 page.kind, .int .i64 page.id, .int .u64 (page.gen : Int), .slice ba page.body.length bc, .bool full, .bool dirty, .bool false, .int .i64 pins] := by rw [hV]; first | exact BoxAt.newAt _ _ hsb [_, _, _, _, _, _, _, _] _ | (rw [hsb]; exact (BoxAt.newAt _ _ hsb [_, _, _, _, _, _, _, _] _).put 6 (.bool false))
            have hbV : Below wr.heap.size wr V := by rw [hV]; go_grown
            have HSB := Lib.hid hsb
            clear hV x0 x1 x2 x3 x4 x5 x6 x7 x8 x9 x10 x11 x12 e0 e1 e2 e3 e4 e5 e6 e7
            rw [hsb]
            clear hsb
            have HS := Lib.hid hS
            obtain ⟨hrV, hxV, hyV, hgV, hBV⟩ := HREL.out V hbV
            have HRV := Lib.hid hrV
            have HXV := Lib.hid (hxV)
            have HYV := Lib.hid hyV
            have HGV := Lib.hid hgV
            have HBV := Lib.hid hBV
            have hVs : sb < V.heap.size := hS.lt
            have HSET := Lib.hid (show Calls Tryz.prog 61 #[.agg #[.slice (some ⟨b, o, none⟩) N tc, .int .i64 (Cj.hand : Int), .int .i64 (Cj.disk.blocks : Int), .int .i64 (Cj.disk.size : Int), .slice pa Cj.disk.lasting.length pc, .slice ra Cj.disk.waiting.length rc, .bool Cj.disk.lit, .int .i64 Cj.disk.after, .int .i64 Cj.disk.torn, .int .i64 Cj.disk.cut, .slice oa Cj.disk.keep.length oc, .bool Cj.disk.off, .int .i64 Cj.disk.count], .int .i64 (q : Int), .agg #[.int .i64 page.kind, .int .i64 page.id, .int .u64 (page.gen : Int), .slice ba page.body.length bc, .bool full, .bool dirty, .bool false, .int .i64 pins]] V (GivesC Gj V (Ch.set Cj q ⟨page, full, dirty, false, pins⟩)) by
              have hh := refCset_is hrV (fun k hk => (hgV k hk).2.1) (by rw [HLJ.out]; exact hl.2) q (by rw [HLJ.out]; exact hqk) (⟨page, full, dirty, false, pins⟩, ba, bc) (HBS.out.below hbV) HBG.out
              unfold refCV slotV at hh
              rw [HLJ.out] at hh
              exact hh)
            clear hS hbV hrV hyV hgV hBV
            unfold cellsC at hxV
            rw [HLJ.out] at hxV
            simp only at hxV
            obtain ⟨x0, x1, x2, x3, x4, x5, x6, x7, x8, x9, x10, x11, x12⟩ := hxV.thirteen
            obtain ⟨m0, m1, m2, m3, m4, m5, m6, m7⟩ := HS.out.eight
            clear hxV
            go_upto_region 18 with (go_at_call 61; (refine HSET.out.mono ?_); (rintro e w6 ⟨⟨⟨sa6, sc6, la6, lc6, wa6, wq6, ka6, kc6⟩, rfl, h6⟩, hb6⟩); (have H6 := Lib.hid h6); (have HB6 := Lib.hid hb6); (clear h6 hb6); (unfold refCV))
            obtain ⟨ob, hob⟩ : ∃ ob, w6.heap.size = ob := ⟨_, rfl⟩
            refine wp_name fun V6 hV6 => ?_
            have hb6 : Below w6.heap.size w6 V6 := by rw [hV6]; exact (Below.refl _ _).alloc (Nat.le_refl _) _
            have HO6 := Lib.hid (show BoxAt V6 ob [.slice sa6 (Ch.set Cj q ⟨page, full, dirty, false, pins⟩).slots.length sc6, .int .i64 (Cj.hand : Int), .int .i64 (Cj.disk.blocks : Int), .int .i64 (Cj.disk.size : Int), .slice la6 Cj.disk.lasting.length lc6, .slice wa6 Cj.disk.waiting.length wq6, .bool Cj.disk.lit, .int .i64 Cj.disk.after, .int .i64 Cj.disk.torn, .int .i64 Cj.disk.cut, .slice ka6 Cj.disk.keep.length kc6, .bool Cj.disk.off, .int .i64 Cj.disk.count] by rw [hV6]; exact BoxAt.newAt _ _ hob [_, _, _, _, _, _, _, _, _, _, _, _, _] _)
            have HB56 := Lib.hid (below_step HB6.out hb6)
            have HH6 := Lib.hid (show Held (More Gj V w6) w6 from More.held (fun k hk => (HGV.out k hk).2.1) HB6.out.size)
            have H6V := Lib.hid (H6.out.on (w' := V6) fun k hk => hb6.block k (HH6.out k hk))
            have HOBE := Lib.hid hob
            clear hV6 hb6 x0 x1 x2 x3 x4 x5 x6 x7 x8 x9 x10 x11 x12 m0 m1 m2 m3 m4 m5 m6 m7
            rw [hob]
            clear hob
            have hx6 := HXV.out.below HB56.out
            unfold cellsC at hx6
            rw [HLJ.out] at hx6
            simp only at hx6
            have HX6 := Lib.hid hx6
            clear hx6
            have HY6 := Lib.hid (HYV.out.below HB56.out)
            obtain ⟨z0, z1, z2, z3, z4, z5, z6, z7, z8, z9, z10, z11, z12⟩ := HO6.out.thirteen
            obtain ⟨x0, x1, x2, x3, x4, x5, x6, x7, x8, x9, x10, x11, x12⟩ := HX6.out.thirteen
            obtain ⟨f0, f1, f2, f3, f4, f5, f6, f7, f8, f9, f10, f11, f12⟩ := HX6.out.thirteenF
            go_wp2_with fail
            go_roundw
            case rel =>
              have hs4 := HB6.out.size
              have hs5 := HBV.out.size
              have hs6 : w6.heap.size ≤ V6.heap.size := by have := HO6.out.lt; have := HOBE.out; omega
              have hwn := HNB.out
              have hg7 := grown13 V6 nb (.slice sa6 (Ch.set Cj q ⟨page, full, dirty, false, pins⟩).slots.length sc6) (.int .i64 (Cj.hand : Int)) (.int .i64 (Cj.disk.blocks : Int)) (.int .i64 (Cj.disk.size : Int)) (.slice la6 Cj.disk.lasting.length lc6) (.slice wa6 Cj.disk.waiting.length wq6) (.bool Cj.disk.lit) (.int .i64 Cj.disk.after) (.int .i64 Cj.disk.torn) (.int .i64 Cj.disk.cut) (.slice ka6 Cj.disk.keep.length kc6) (.bool Cj.disk.off) (.int .i64 Cj.disk.count)
              refine ⟨j + 1, Ch.set Cj q ⟨page, full, dirty, false, pins⟩, ⟨sa6, sc6, la6, lc6, wa6, wq6, ka6, kc6⟩, More Gj V w6, by omega, by go_num, by rw [← HST'.out]; exact HRD.out, HOK.out.set q ⟨HSLO.out.1, HSLO.out.2.1, HSLO.out.2.2⟩, (Ch.set_len _ _ _).trans HLJ.out, H6V.out.on fun k hk => hg7.block k (by have := HH6.out k hk; omega) ?_, HX6.out.fill13 _ _ _ _ _ _ _ _ _ _ _ _ _, HY6.out.grownR hg7 (by intro e; have := Option.some.inj e; omega), ?_, (below_step HBV.out HB56.out).trans (below_of_grown hg7 (by omega) (below_step HBV.out HB56.out).size)⟩
              · intro e; cases e
                rcases hk with hk | hk
                · exact (HGV.out _ hk).2.2.1 rfl
                · have := hk.1; have := HSB.out; omega
              · intro k hk
                have hk6 := HH6.out k hk
                have hs7 := hg7.size
                rcases hk with hk | hk
                · obtain ⟨q1, q2, q3, q4⟩ := HGV.out k hk
                  exact ⟨q1, by omega, q3, q4⟩
                · have := hk.1
                  have := HSB.out
                  exact ⟨.inr (by omega), by omega, by omega, by omega⟩
            case measure => simp [intOf]; omega
          | false =>
            obtain ⟨D1, k1, hw⟩ : ∃ D1 k1, Ch.write Cj q = (D1, k1) := ⟨_, _, rfl⟩
            have HST' := Lib.hid (HST.out.trans ((if_neg hp).trans (if_neg (by simp))))
            rw [hw] at HST'
            have hgeo := Ch.write_geo Cj q
            rw [hw] at hgeo
            have HGEO := Lib.hid hgeo
            have HWRITE := Lib.hid (fun (w1 : World) (hb : Below wr.heap.size wr w1) => show Calls Tryz.prog 40 #[.agg #[.slice (some ⟨b, o, none⟩) N tc, .int .i64 (Cj.hand : Int), .int .i64 (Cj.disk.blocks : Int), .int .i64 (Cj.disk.size : Int), .slice pa Cj.disk.lasting.length pc, .slice ra Cj.disk.waiting.length rc, .bool Cj.disk.lit, .int .i64 Cj.disk.after, .int .i64 Cj.disk.torn, .int .i64 Cj.disk.cut, .slice oa Cj.disk.keep.length oc, .bool Cj.disk.off, .int .i64 Cj.disk.count], .int .i64 (q : Int)] w1 (GivesCK Gj w1 D1 k1) from by
              have hh := refCwrite_is (HRJ.out.below HHJ.out hb) (HHJ.out.more hb.size) HOK.out hn q hqs hw
              unfold refCV at hh
              rw [HLJ.out] at hh
              exact hh)
            clear HST hw hgeo
            go_upto_region 11 with fail
            refine wp_name fun V0 hV0 => ?_
            have hb0 : Below wr.heap.size wr V0 := by rw [hV0]; go_grown
            have HB0 := Lib.hid hb0
            have HWR := Lib.hid (HWRITE.out V0 hb0)
            obtain ⟨-, hx0, -, -, -⟩ := HREL.out V0 hb0
            unfold cellsC at hx0
            rw [HLJ.out] at hx0
            simp only at hx0
            clear hV0 hb0 HWRITE x0 x1 x2 x3 x4 x5 x6 x7 x8 x9 x10 x11 x12 e0 e1 e2 e3 e4 e5 e6 e7
            obtain ⟨x0, x1, x2, x3, x4, x5, x6, x7, x8, x9, x10, x11, x12⟩ := hx0.thirteen
            clear hx0
            go_upto_region 12 with (go_at_call 40; (refine HWR.out.mono ?_); (rintro e w3 ⟨⟨⟨sa3, sc3, la3, lc3, wa3, wq3, ka3, kc3⟩, rfl, h3⟩, hb3⟩); (have HB3 := Lib.hid (below_step HB0.out hb3)); (have H3 := Lib.hid h3); (clear h3 hb3); (unfold refCV))
            obtain ⟨ob, hob⟩ : ∃ ob, w3.heap.size = ob := ⟨_, rfl⟩
            refine wp_name fun V hV => ?_
            have hbV3 : Below w3.heap.size w3 V := by rw [hV]; exact (Below.refl _ _).alloc (Nat.le_refl _) _
            have HO3 := Lib.hid (show BoxAt V ob [.slice sa3 D1.slots.length sc3, .int .i64 (D1.hand : Int), .int .i64 (D1.disk.blocks : Int), .int .i64 (D1.disk.size : Int), .slice la3 D1.disk.lasting.length lc3, .slice wa3 D1.disk.waiting.length wq3, .bool D1.disk.lit, .int .i64 D1.disk.after, .int .i64 D1.disk.torn, .int .i64 D1.disk.cut, .slice ka3 D1.disk.keep.length kc3, .bool D1.disk.off, .int .i64 D1.disk.count] by rw [hV]; exact BoxAt.newAt _ _ hob [_, _, _, _, _, _, _, _, _, _, _, _, _] _)
            have HBV := Lib.hid (below_step HB3.out hbV3)
            have HM3 := Lib.hid (show Held (More Gj wr w3) w3 from More.held HHJ.out HB3.out.size)
            have H3V := Lib.hid (show RefC (More Gj wr w3) V D1 ⟨sa3, sc3, la3, lc3, wa3, wq3, ka3, kc3⟩ from (H3.out.mono (fun k hk => hk.imp id fun h => ⟨Nat.le_trans HB0.out.size h.1, h.2⟩)).on fun k hk => hbV3.block k (HM3.out k hk))
            have HOBE := Lib.hid hob
            have hs3 : w3.heap.size < V.heap.size := by rw [hob]; exact HO3.out.lt
            clear hV hbV3 x0 x1 x2 x3 x4 x5 x6 x7 x8 x9 x10 x11 x12 H3
            rw [hob]
            rw [hob] at hs3
            clear hob
            obtain ⟨-, -, hyV, hgV, hBV⟩ := HREL.out V HBV.out
            have HYV := Lib.hid hyV
            have HGV := Lib.hid hgV
            have HBWV := Lib.hid hBV
            clear hyV hgV hBV
            obtain ⟨x0, x1, x2, x3, x4, x5, x6, x7, x8, x9, x10, x11, x12⟩ := HO3.out.thirteen
            by_cases hk1 : k1 = 0
            · subst hk1
              have HFIN := Lib.hid (HRD.out.symm.trans (HST'.out.trans (if_pos rfl)))
              obtain ⟨q2, hq2⟩ : ∃ q2, (q + 1) % N = q2 := ⟨_, rfl⟩
              rw [hq2] at HFIN
              have g6 : IntKind.i64.wrap ((q : Int) + 1) = (q : Int) + 1 := IntWalk.i64_in _ (by omega)
              have g7 : ((q : Int) + 1).tmod (N : Int) = (q2 : Int) := by rw [← hq2]; rw [Int.tmod_eq_emod_of_nonneg (by omega)]; push_cast; rfl
              have g8 : ¬ N = 0 := by omega
              have hfin : (({ Ch.set D1 q Ch.Slot.zero with hand := q2 } : Ch.Cache), q, 0) = (D, i, kk) := HFIN.out.symm
              obtain ⟨hf1, hf2, hf3⟩ := (by simpa only [Prod.mk.injEq] using hfin : _ ∧ _ ∧ _)
              subst hf1 hf2 hf3
              clear hfin HFIN HST' HRD HR hq2
              have hqd : q < D1.slots.length := by have := HGEO.out.1; have := HLJ.out; omega
              have hld : D1.slots.length ≤ 64 := by have := HGEO.out.1; have := HLJ.out; omega
              have HSET := Lib.hid (show Calls Tryz.prog 61 #[.agg #[.slice sa3 D1.slots.length sc3, .int .i64 (D1.hand : Int), .int .i64 (D1.disk.blocks : Int), .int .i64 (D1.disk.size : Int), .slice la3 D1.disk.lasting.length lc3, .slice wa3 D1.disk.waiting.length wq3, .bool D1.disk.lit, .int .i64 D1.disk.after, .int .i64 D1.disk.torn, .int .i64 D1.disk.cut, .slice ka3 D1.disk.keep.length kc3, .bool D1.disk.off, .int .i64 D1.disk.count], .int .i64 (q : Int), .agg #[.int .i64 0, .int .i64 0, .int .u64 0, .slice none 0 0, .bool false, .bool false, .bool false, .int .i64 0]] V (GivesC (More Gj wr w3) V (Ch.set D1 q Ch.Slot.zero)) by
                have hh := refCset_is H3V.out (fun k hk => by have := HM3.out k hk; have := HOBE.out; omega) hld q hqd (Ch.Slot.zero, none, 0) (BytesAt.nil V) (.inl rfl)
                exact hh)
              clear hqd hld
              go_upto_region 15 with (go_at_call 61; (refine HSET.out.mono ?_); (rintro e w6 ⟨⟨⟨sa6, sc6, la6, lc6, wa6, wq6, ka6, kc6⟩, rfl, h6⟩, hb6⟩); (have H6 := Lib.hid h6); (have HB6 := Lib.hid hb6); (clear h6 hb6); (unfold refCV))
              obtain ⟨pb, hpb⟩ : ∃ pb, w6.heap.size = pb := ⟨_, rfl⟩
              refine wp_name fun V6 hV6 => ?_
              have hb6 : Below w6.heap.size w6 V6 := by rw [hV6]; exact (Below.refl _ _).alloc (Nat.le_refl _) _
              have HO6 := Lib.hid (show BoxAt V6 pb [.slice sa6 (Ch.set D1 q Ch.Slot.zero).slots.length sc6, .int .i64 (D1.hand : Int), .int .i64 (D1.disk.blocks : Int), .int .i64 (D1.disk.size : Int), .slice la6 D1.disk.lasting.length lc6, .slice wa6 D1.disk.waiting.length wq6, .bool D1.disk.lit, .int .i64 D1.disk.after, .int .i64 D1.disk.torn, .int .i64 D1.disk.cut, .slice ka6 D1.disk.keep.length kc6, .bool D1.disk.off, .int .i64 D1.disk.count] by rw [hV6]; exact BoxAt.newAt _ _ hpb [_, _, _, _, _, _, _, _, _, _, _, _, _] _)
              have HB56 := Lib.hid (below_step HB6.out hb6)
              have HM6 := Lib.hid (show Held (More (More Gj wr w3) V w6) w6 from More.held (fun k hk => by have := HM3.out k hk; have := HOBE.out; omega) HB6.out.size)
              have H6V := Lib.hid (H6.out.on (w' := V6) fun k hk => hb6.block k (HM6.out k hk))
              have HPBE := Lib.hid hpb
              clear hV6 hb6 x0 x1 x2 x3 x4 x5 x6 x7 x8 x9 x10 x11 x12
              rw [hpb]
              clear hpb
              have HY6 := Lib.hid (HYV.out.below HB56.out)
              have HYD := Lib.hid (show BoxAt V6.drew (nb + 1) zeroC from HY6.out.below (Below.refl _ _).drew)
              obtain ⟨x0, x1, x2, x3, x4, x5, x6, x7, x8, x9, x10, x11, x12⟩ := HO6.out.thirteen
              have p0 := Near.cell (w := V6.drew) (row := none) (show V6.drew.cell? ⟨pb, 0, none⟩ = _ from x0) (by simp)
              have p1 := Near.cell (w := V6.drew) (row := none) (show V6.drew.cell? ⟨pb, 1, none⟩ = _ from x1) (by simp)
              have p2 := Near.cell (w := V6.drew) (row := none) (show V6.drew.cell? ⟨pb, 2, none⟩ = _ from x2) (by simp)
              have p3 := Near.cell (w := V6.drew) (row := none) (show V6.drew.cell? ⟨pb, 3, none⟩ = _ from x3) (by simp)
              have p4 := Near.cell (w := V6.drew) (row := none) (show V6.drew.cell? ⟨pb, 4, none⟩ = _ from x4) (by simp)
              have p5 := Near.cell (w := V6.drew) (row := none) (show V6.drew.cell? ⟨pb, 5, none⟩ = _ from x5) (by simp)
              have p6 := Near.cell (w := V6.drew) (row := none) (show V6.drew.cell? ⟨pb, 6, none⟩ = _ from x6) (by simp)
              have p7 := Near.cell (w := V6.drew) (row := none) (show V6.drew.cell? ⟨pb, 7, none⟩ = _ from x7) (by simp)
              have p8 := Near.cell (w := V6.drew) (row := none) (show V6.drew.cell? ⟨pb, 8, none⟩ = _ from x8) (by simp)
              have p9 := Near.cell (w := V6.drew) (row := none) (show V6.drew.cell? ⟨pb, 9, none⟩ = _ from x9) (by simp)
              have p10 := Near.cell (w := V6.drew) (row := none) (show V6.drew.cell? ⟨pb, 10, none⟩ = _ from x10) (by simp)
              have p11 := Near.cell (w := V6.drew) (row := none) (show V6.drew.cell? ⟨pb, 11, none⟩ = _ from x11) (by simp)
              have p12 := Near.cell (w := V6.drew) (row := none) (show V6.drew.cell? ⟨pb, 12, none⟩ = _ from x12) (by simp)
              refine wp_region_mix (fun w' => ∃ x : Near V6.drew none, w' = x.world) [10] 13 (by kernel_rfl) rfl ?_
              refine mix_reads_lit [0, 1, 2, 3, 4, 5, 6, 7, 8, 9] 3 (by kernel_rfl) (by kernel_rfl) (by kernel_rfl) (by kernel_rfl) rfl (NearC.of (World.grownBy.refl _ _)) ?_
              simp only [pick, List.filterMap_cons, List.filterMap_nil, List.getElem?_cons_succ, List.getElem?_cons_zero]
              repeat (first | go_big_quiet_step (fail) | quiet_step (fail))
              refine wpQuiet_nil ?_
              clear p0 p1 p2 p3 p4 p5 p6 p7 p8 p9 p10 p11 p12 x0 x1 x2 x3 x4 x5 x6 x7 x8 x9 x10 x11 x12
              obtain ⟨y0, y1, y2, y3, y4, y5, y6, y7, y8, y9, y10, y11, y12⟩ := HY6.out.thirteen
              obtain ⟨f0, f1, f2, f3, f4, f5, f6, f7, f8, f9, f10, f11, f12⟩ := HY6.out.thirteenF
              refine mix_deed_lit 10 2 (by kernel_rfl) (by kernel_rfl) rfl (fun K hK => ?_)
              simp only [comesUp, List.getElem?_cons_succ, List.getElem?_cons_zero]
              refine if_mk rfl ?_
              go_simp
              refine hK _ _ (fun h => by simp [keeps] at h) ?_
              clear hK K y0 y1 y2 y3 y4 y5 y6 y7 y8 y9 y10 y11 y12 f0 f1 f2 f3 f4 f5 f6 f7 f8 f9 f10 f11 f12
              refine mix_flat_lit [11, 12] 0 (by kernel_rfl) (by kernel_rfl) (by kernel_rfl) (by kernel_rfl) rfl ?_
              simp only [pick, List.filterMap_cons, List.filterMap_nil, List.getElem?_cons_succ, List.getElem?_cons_zero]
              repeat (first | go_big_quiet_step (fail) | quiet_step (fail))
              refine wpQuiet_nil ?_
              refine mix_done_lit (by kernel_rfl) ?_
              refine q_name fun Z hZ => ?_
              obtain ⟨Z0, hZ0, hf, hgz⟩ := HY6.out.fill13s (.slice sa6 (Ch.set D1 q Ch.Slot.zero).slots.length sc6) (.int .i64 (q2 : Int)) (.int .i64 (D1.disk.blocks : Int)) (.int .i64 (D1.disk.size : Int)) (.slice la6 D1.disk.lasting.length lc6) (.slice wa6 D1.disk.waiting.length wq6) (.bool D1.disk.lit) (.int .i64 D1.disk.after) (.int .i64 D1.disk.torn) (.int .i64 D1.disk.cut) (.slice ka6 D1.disk.keep.length kc6) (.bool D1.disk.off) (.int .i64 D1.disk.count)
              rw [← hZ0] at hZ
              clear hZ0
              subst hZ
              have HGZ := Lib.hid (show V6.grownBy Z0.drew (some (nb + 1)) from ⟨hgz.os, hgz.tape, hgz.output, hgz.size, hgz.block⟩)
              obtain ⟨z0, z1, z2, z3, z4, z5, z6, z7, z8, z9, z10, z11, z12⟩ := hf.thirteen
              clear hf hgz
              go_wp2_with fail
              refine bodyPost_ret (v := .tuple #[refCV { Ch.set D1 q Ch.Slot.zero with hand := q2 } ⟨sa6, sc6, la6, lc6, wa6, wq6, ka6, kc6⟩, .int .i64 (q : Int), .int .i64 0]) (by simp [results, Tryz.results60, go_sem, refCV, Ch.set, z0, z1, z2, z3, z4, z5, z6, z7, z8, z9, z10, z11, z12]) rfl ?_
              have hwn := HNB.out
              have hs4 := HB3.out.size
              have hs5 := HBJ.out.size
              have hs6 := HOBE.out
              have hs7 := HB6.out.size
              have hs8 := HPBE.out
              have hs9 := HO6.out.lt
              exact GivesCS.fin (G2 := More (More Gj wr w3) V w6) (V := V6) (rb := nb + 1) ⟨H6V.out.rows, H6V.out.rowG, H6V.out.disk⟩ (fun k hk => by
                have hk6 := HM6.out k hk
                rcases hk with hk | hk
                · have hk3 := HM3.out k hk
                  rcases hk with hk | hk
                  · obtain ⟨q1, q2, q3, q4⟩ := HGV.out k hk
                    exact ⟨q1, by omega, q4⟩
                  · have := hk.1; exact ⟨.inr (by omega), by omega, by omega⟩
                · have := hk.1; exact ⟨.inr (by omega), by omega, by omega⟩) (by omega) (below_step HBWV.out HB56.out) HGZ.out
            · have hfin : (D1, 0, k1) = (D, i, kk) := (HRD.out.symm.trans (HST'.out.trans (if_neg hk1))).symm
              obtain ⟨hf1, hf2, hf3⟩ := (by simpa only [Prod.mk.injEq] using hfin : _ ∧ _ ∧ _)
              subst hf1 hf2 hf3
              clear hfin HST' HRD HR
              have hkb : ((k1 : Int) == 0) = false := by simp [hk1]
              obtain ⟨y0, y1, y2, y3, y4, y5, y6, y7, y8, y9, y10, y11, y12⟩ := HYV.out.thirteen
              obtain ⟨f0, f1, f2, f3, f4, f5, f6, f7, f8, f9, f10, f11, f12⟩ := HYV.out.thirteenF
              go_wp2_with fail
              refine bodyPost_ret (v := .tuple #[refCV D1 ⟨sa3, sc3, la3, lc3, wa3, wq3, ka3, kc3⟩, .int .i64 0, .int .i64 (k1 : Int)]) (by simp [results, Tryz.results60, go_sem, refCV, y0, y1, y2, y3, y4, y5, y6, y7, y8, y9, y10, y11, y12]) rfl ?_
              have hwn := HNB.out
              have hs4 := HB3.out.size
              have hs5 := HBJ.out.size
              have hs6 := HOBE.out
              exact GivesCS.fin (G2 := More Gj wr w3) (V := V) (rb := nb + 1) H3V.out (fun k hk => by
                have hk3 := HM3.out k hk
                rcases hk with hk | hk
                · obtain ⟨q1, q2, q3, q4⟩ := HGV.out k hk
                  exact ⟨q1, q2, q4⟩
                · have := hk.1; exact ⟨.inr (by omega), by omega, by omega⟩) (by omega) HBWV.out (grown13 V (nb + 1) _ _ _ _ _ _ _ _ _ _ _ _ _)
      · obtain rfl : j = 2 * N := by omega
        have hrd0 : (Cj, 0, 3) = (D, i, kk) := by have := HRD.out; rw [Nat.sub_self] at this; exact this
        obtain ⟨hf1, hf2, hf3⟩ := (by simpa only [Prod.mk.injEq] using hrd0 : _ ∧ _ ∧ _)
        subst hf1 hf2 hf3
        clear hrd0 HRD HR
        obtain ⟨y0, y1, y2, y3, y4, y5, y6, y7, y8, y9, y10, y11, y12⟩ := HYJ.out.thirteen
        obtain ⟨f0, f1, f2, f3, f4, f5, f6, f7, f8, f9, f10, f11, f12⟩ := HYJ.out.thirteenF
        go_wp2_with fail
        refine bodyPost_ret (v := .tuple #[refCV Cj ⟨ta, tc, pa, pc, ra, rc, oa, oc⟩, .int .i64 0, .int .i64 3]) (by simp [results, Tryz.results60, go_sem, refCV, HLJ.out, y0, y1, y2, y3, y4, y5, y6, y7, y8, y9, y10, y11, y12]) rfl ?_
        have hwn := HNB.out
        exact GivesCS.fin (G2 := Gj) (V := wr) (rb := nb + 1) HRJ.out (fun k hk => by
          obtain ⟨q1, q2, q3, q4⟩ := HGJ.out k hk
          exact ⟨q1, q2, q4⟩) (by omega) HBJ.out (grown13 wr (nb + 1) _ _ _ _ _ _ _ _ _ _ _ _ _)
  · have hD := HD.out
    rw [if_pos hr1] at hD
    obtain ⟨rfl, rfl, rfl⟩ := (by simpa only [Prod.mk.injEq] using hD : _ ∧ _ ∧ _)
    clear hD HD
    obtain ⟨q, rfl⟩ : ∃ q : Nat, r = (q : Int) := ⟨r.toNat, by omega⟩
    rw [Int.toNat_natCast]
    go_upto_region 2 with (go_at_call 84; (refine (HEM.out _ HB.out).mono ?_); (rintro e w1 ⟨rfl, hb1⟩); (have HB1 := Lib.hid hb1); (clear hb1))
    have HX1 := Lib.hid (HX.out.below HB1.out)
    have HY1 := Lib.hid (HY.out.below HB1.out)
    have HBW1 := Lib.hid (below_step HB.out HB1.out)
    clear x0 x1 x2 x3 x4 x5 x6 x7 x8 x9 x10 x11 x12
    obtain ⟨x0, x1, x2, x3, x4, x5, x6, x7, x8, x9, x10, x11, x12⟩ := HX1.out.thirteen
    have p0 := Near.cell (w := w1.drew) (row := none) (show w1.drew.cell? ⟨nb, 0, none⟩ = _ from x0) (by simp)
    have p1 := Near.cell (w := w1.drew) (row := none) (show w1.drew.cell? ⟨nb, 1, none⟩ = _ from x1) (by simp)
    have p2 := Near.cell (w := w1.drew) (row := none) (show w1.drew.cell? ⟨nb, 2, none⟩ = _ from x2) (by simp)
    have p3 := Near.cell (w := w1.drew) (row := none) (show w1.drew.cell? ⟨nb, 3, none⟩ = _ from x3) (by simp)
    have p4 := Near.cell (w := w1.drew) (row := none) (show w1.drew.cell? ⟨nb, 4, none⟩ = _ from x4) (by simp)
    have p5 := Near.cell (w := w1.drew) (row := none) (show w1.drew.cell? ⟨nb, 5, none⟩ = _ from x5) (by simp)
    have p6 := Near.cell (w := w1.drew) (row := none) (show w1.drew.cell? ⟨nb, 6, none⟩ = _ from x6) (by simp)
    have p7 := Near.cell (w := w1.drew) (row := none) (show w1.drew.cell? ⟨nb, 7, none⟩ = _ from x7) (by simp)
    have p8 := Near.cell (w := w1.drew) (row := none) (show w1.drew.cell? ⟨nb, 8, none⟩ = _ from x8) (by simp)
    have p9 := Near.cell (w := w1.drew) (row := none) (show w1.drew.cell? ⟨nb, 9, none⟩ = _ from x9) (by simp)
    have p10 := Near.cell (w := w1.drew) (row := none) (show w1.drew.cell? ⟨nb, 10, none⟩ = _ from x10) (by simp)
    have p11 := Near.cell (w := w1.drew) (row := none) (show w1.drew.cell? ⟨nb, 11, none⟩ = _ from x11) (by simp)
    have p12 := Near.cell (w := w1.drew) (row := none) (show w1.drew.cell? ⟨nb, 12, none⟩ = _ from x12) (by simp)
    refine wp_region_mix (fun w' => ∃ x : Near w1.drew none, w' = x.world) [3] 6 (by kernel_rfl) rfl ?_
    refine mix_reads_lit [0, 1] 4 (by kernel_rfl) (by kernel_rfl) (by kernel_rfl) (by kernel_rfl) rfl (NearC.of (World.grownBy.refl _ _)) ?_
    simp only [pick, List.filterMap_cons, List.filterMap_nil, List.getElem?_cons_succ, List.getElem?_cons_zero]
    repeat (first | go_big_quiet_step (fail) | quiet_step (fail))
    refine wpQuiet_nil ?_
    clear p0 p1 p2 p3 p4 p5 p6 p7 p8 p9 p10 p11 p12 x0 x1 x2 x3 x4 x5 x6 x7 x8 x9 x10 x11 x12
    have hbd : Below w.heap.size w w1.drew := HBW1.out.drew
    refine mix_deed_lit 2 3 (by kernel_rfl) (by kernel_rfl) rfl (fun K hK => ?_)
    simp only [comesUp, List.getElem?_cons_succ, List.getElem?_cons_zero]
    refine if_mk rfl ?_
    go_simp
    refine (HEM.out _ hbd).mono ?_
    rintro e w2 ⟨rfl, hb2⟩
    have b2 : Below w1.heap.size w1 w2 := below_step (Below.refl _ _).drew hb2
    have bd2 : Below w1.heap.size w1.drew w2 := ⟨b2.os, b2.tape, b2.output, b2.size, b2.block⟩
    refine hK _ _ (fun _ _ => NearC.of (grown_of_below bd2 (Nat.le_refl _) _)) ?_
    clear hK K
    have HY2 := Lib.hid (HY1.out.below b2)
    have HB2 := Lib.hid (below_step HBW1.out b2)
    clear hb2 b2 bd2 hbd
    obtain ⟨y0, y1, y2, y3, y4, y5, y6, y7, y8, y9, y10, y11, y12⟩ := HY2.out.thirteen
    obtain ⟨f0, f1, f2, f3, f4, f5, f6, f7, f8, f9, f10, f11, f12⟩ := HY2.out.thirteenF
    refine mix_deed_lit 3 2 (by kernel_rfl) (by kernel_rfl) rfl (fun K hK => ?_)
    simp only [comesUp, List.getElem?_cons_succ, List.getElem?_cons_zero]
    refine if_mk rfl ?_
    go_simp
    refine hK _ _ (fun h => by simp [keeps] at h) ?_
    clear hK K y0 y1 y2 y3 y4 y5 y6 y7 y8 y9 y10 y11 y12 f0 f1 f2 f3 f4 f5 f6 f7 f8 f9 f10 f11 f12
    refine mix_flat_lit [4, 5] 0 (by kernel_rfl) (by kernel_rfl) (by kernel_rfl) (by kernel_rfl) rfl ?_
    simp only [pick, List.filterMap_cons, List.filterMap_nil, List.getElem?_cons_succ, List.getElem?_cons_zero]
    repeat (first | go_big_quiet_step (fail) | quiet_step (fail))
    refine wpQuiet_nil ?_
    refine mix_done_lit (by kernel_rfl) ?_
    refine q_name fun Z hZ => ?_
    have hf := HY2.out.fill13 (.slice sa N sc) (.int .i64 (C.hand : Int)) (.int .i64 (C.disk.blocks : Int)) (.int .i64 (C.disk.size : Int)) (.slice la C.disk.lasting.length lc) (.slice wa C.disk.waiting.length wq) (.bool C.disk.lit) (.int .i64 C.disk.after) (.int .i64 C.disk.torn) (.int .i64 C.disk.cut) (.slice ka C.disk.keep.length kc) (.bool C.disk.off) (.int .i64 C.disk.count)
    have hgz := grown13 w2 (nb + 1) (.slice sa N sc) (.int .i64 (C.hand : Int)) (.int .i64 (C.disk.blocks : Int)) (.int .i64 (C.disk.size : Int)) (.slice la C.disk.lasting.length lc) (.slice wa C.disk.waiting.length wq) (.bool C.disk.lit) (.int .i64 C.disk.after) (.int .i64 C.disk.torn) (.int .i64 C.disk.cut) (.slice ka C.disk.keep.length kc) (.bool C.disk.off) (.int .i64 C.disk.count)
    rw [← hZ] at hf hgz
    have HGZ := Lib.hid hgz
    obtain ⟨z0, z1, z2, z3, z4, z5, z6, z7, z8, z9, z10, z11, z12⟩ := hf.thirteen
    clear hZ hf hgz
    go_wp2_with fail
    refine bodyPost_ret (v := .tuple #[refCV C ⟨sa, sc, la, lc, wa, wq, ka, kc⟩, .int .i64 (q : Int), .int .i64 0]) (by simp [results, Tryz.results60, go_sem, refCV, HN.out, z0, z1, z2, z3, z4, z5, z6, z7, z8, z9, z10, z11, z12]) rfl ?_
    have hwn := HNB.out
    have hs2 := HB2.out.size
    exact GivesCS.fin (G2 := G) (V := w2) (rb := nb + 1) (H.out.below HG.out HB2.out) (fun k hk => by have := HG.out k hk; exact ⟨.inl hk, by omega, by omega⟩) (by omega) HB2.out HGZ.out
end Go.Proofs.YtflbioiildndoaaGreatDoor

