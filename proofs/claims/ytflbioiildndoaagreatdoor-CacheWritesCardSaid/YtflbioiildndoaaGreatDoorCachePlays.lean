/- the statements of caches: CachePlays (printed by wip/tools/rc/mk_plays.py and gen_refc.py) -/
import Derived.Test.YtflbioiildndoaaGreatDoorCacheB0
import Derived.Test.YtflbioiildndoaaGreatDoorCacheB7
import Derived.Test.YtflbioiildndoaaGreatDoorSameInts
namespace Go.Proofs.YtflbioiildndoaaGreatDoor
open Go.RowKit
set_option linter.unusedVariables false
set_option linter.unusedSimpArgs false

/-- in mid-play: the program's cache and the document's, which lies in a box, are one -/
structure PlayC (w wr : World) (c dp tb : Nat) (n sl : Nat) (C : Ch.Cache) (U G : Nat → Prop) (s : Shp) (rg rc : Nat) : Prop where
  fit : Ch.Fit n sl C
  prog : CIn U wr c dp rg rc C
  ref : RefC G wr C s
  box : BoxAt wr tb (cellsC C s)
  held : Held G wr
  apart : ∀ k, G k → ¬ U k
  out : ¬ U tb ∧ ¬ G tb
  low : ∀ k, U k → w.heap.size ≤ k
  tbl : w.heap.size ≤ tb
  below : Below w.heap.size w wr
theorem PlayC.later {w wr wr' : World} {c dp tb n sl : Nat} {C : Ch.Cache} {U G : Nat → Prop} {s : Shp} {rg rc : Nat} (h : PlayC w wr c dp tb n sl C U G s rg rc) (hb : Below wr.heap.size wr wr') : PlayC w wr' c dp tb n sl C U G s rg rc :=
  ⟨h.fit, h.prog.below hb, h.ref.below h.held hb, h.box.below hb, h.held.more hb.size, h.apart, h.out, h.low, h.tbl, below_step h.below hb⟩
theorem Ch.new_fit (N : Nat) (h : 3 ≤ N ∧ N ≤ 6) : Ch.Fit 6 N (Ch.new (Ch.madeD 6) N) := by
  have hm := Ch.madeD_ok (Nat.le_refl 6)
  refine ⟨(Ch.new_good hm h.1 h.2).1.ok, Ch.Tidy.blank _ _ _, by unfold Ch.new; simp, hm.geo⟩
/-- behind a step: a box more, in which the document's cache lies -/
def CutS (U G : Nat → Prop) (wr : World) (c dp xb : Nat) (D : Ch.Cache) (wx : World) (s : Shp) : Prop :=
  ∃ (U' G' : Nat → Prop) (rg rc : Nat), CIn U' wx c dp rg rc D ∧ RefC G' wx D s ∧ BoxAt wx xb (cellsC D s) ∧ Beside U wr wx ∧ Grows U wr U' wx ∧ Grows G wr G' wx ∧ (∀ k, G' k → ¬ U' k) ∧ wr.heap.size ≤ xb ∧ ¬ U' xb ∧ ¬ G' xb

set_option maxRecDepth 100000 in
set_option maxHeartbeats 8000000 in
theorem cachePlays_walk (n : Int) (lv : Value) (l : List CCall) (w : World) (A : Nat → Addr) (hs : Sents w A) (hl : RowAt eCC w lv l) :
    Calls Tryz.prog 4 #[.int .i64 n, lv] w fun e w' => e = .returned (.bool true) ∧ Below w.heap.size w w' := by
  obtain ⟨M, hM⟩ : ∃ M, Ch.madeD 6 = M := ⟨_, rfl⟩
  obtain ⟨sl, hsn⟩ : ∃ sl, slotsN n = sl := ⟨_, rfl⟩
  have hsb : 3 ≤ sl ∧ sl ≤ 6 := by rw [← hsn]; exact slotsN_bd n
  have hfit := Ch.new_fit sl hsb
  rw [hM] at hfit
  have HFIT := Lib.hid hfit
  have HS := Lib.hid hs
  have HM := Lib.hid hM
  have HSN := Lib.hid hsn
  have HL := Lib.hid hl
  obtain ⟨aa, ac, rfl, -, -, -⟩ := id hl
  clear hs hM hsn hl hfit
  go_enter Tryz.func4, Tryz.ntmps4
  go_upto_region 2 with (first
    | (go_at_call 5; (refine (made08_is (sl : Int) sl rfl (by omega) M HM.out w A HS.out).mono ?_); (rintro e w1 ⟨⟨c, dp, rg, rc, U, rfl, hC, hge⟩, hb1⟩); (have HC := Lib.hid hC); (have HGE := Lib.hid hge); (have HB1 := Lib.hid hb1); (clear hC hge hb1))
    | (go_at_call 6; (refine (slots08_is n sl HSN.out _).mono ?_); (rintro e w0 ⟨rfl, rfl⟩)))
  obtain ⟨C0, hC0⟩ : ∃ C0, Ch.new M sl = C0 := ⟨_, rfl⟩
  have HWLD := Lib.hid (show Calls Tryz.prog 7 #[.int .i64 (sl : Int)] w1 (GivesC (fun _ => False) w1 C0) from by
    have hh := world08_is (sl : Int) sl rfl ⟨hsb.1, by omega⟩ M HM.out w1
    rw [hC0] at hh
    exact hh)
  rw [hC0] at HC HFIT
  clear hC0
  go_upto_region 5 with (first
    | (go_at_call 7; (refine HWLD.out.mono ?_); (rintro e w2 ⟨⟨⟨sa2, sc2, la2, lc2, wa2, wq2, ka2, kc2⟩, rfl, h2⟩, hb2⟩); (have H2 := Lib.hid h2); (have HB2 := Lib.hid hb2); (clear h2 hb2); (unfold refCV))
    | (go_at_call 6; (refine (slots08_is n sl HSN.out _).mono ?_); (rintro e w0 ⟨rfl, rfl⟩)))
  obtain ⟨tb, htb⟩ : ∃ tb, w2.heap.size = tb := ⟨_, rfl⟩
  refine wp_name fun V hV => ?_
  have hv : BoxAt V tb [.slice sa2 C0.slots.length sc2, .int .i64 (C0.hand : Int), .int .i64 (C0.disk.blocks : Int), .int .i64 (C0.disk.size : Int), .slice la2 C0.disk.lasting.length lc2, .slice wa2 C0.disk.waiting.length wq2, .bool C0.disk.lit, .int .i64 C0.disk.after, .int .i64 C0.disk.torn, .int .i64 C0.disk.cut, .slice ka2 C0.disk.keep.length kc2, .bool C0.disk.off, .int .i64 C0.disk.count] ∧ Below w2.heap.size w2 V := by
    rw [hV]
    exact ⟨BoxAt.newAt _ _ htb [_, _, _, _, _, _, _, _, _, _, _, _, _] _, by go_grown⟩
  have HP := Lib.hid (show PlayC w V c dp tb 6 sl C0 U (More (fun _ => False) w1 w2) ⟨sa2, sc2, la2, lc2, wa2, wq2, ka2, kc2⟩ rg rc from by
    have h1 := HB1.out.size
    have h2 := HB2.out.size
    have h3 := hv.2.size
    have hCV := (HC.out.below HB2.out).below hv.2
    have hUl : ∀ k, U k → k < w1.heap.size := HC.out.held
    exact ⟨HFIT.out, hCV, H2.out.on fun k hk => hv.2.block k (hk.elim (fun q => q.elim) fun q => q.2), hv.1, fun k hk => hk.elim (fun q => q.elim) fun q => by omega, fun k hk hu => hk.elim (fun q => q.elim) fun q => by have := hUl k hu; omega, ⟨fun hu => by have := hUl _ hu; omega, fun hk => hk.elim (fun q => q.elim) fun q => by omega⟩, HGE.out, by omega, below_step (below_step HB1.out HB2.out) hv.2⟩)
  clear hV hv HWLD HC HGE H2 HB2 HB1 HFIT
  rw [htb]
  clear htb
  go_wp2_with fail
  go_loopw [8] (fun i wr => ∃ (k : Nat) (C : Ch.Cache) (U G : Nat → Prop) (s : Shp) (rg rc : Nat), k ≤ l.length ∧ k ≤ 60 ∧ i = .int .i64 (k : Int) ∧ PlayC w wr c dp tb (6 + 6 * k) sl C U G s rg rc) (fun i _ => 60 - (intOf i).toNat)
  case atStart => exact ⟨0, _, _, _, _, _, _, by omega, by omega, rfl, HP.out⟩
  case round =>
    clear HP
    obtain ⟨k, C, U', G, ⟨sa, sc, la, lc, wa, wq, ka, kc⟩, rg', rc', hk, hk6, rfl, hp⟩ := hrel
    have HP := Lib.hid hp
    clear hp
    have hlenr := hk
    by_cases hcont : k < l.length ∧ k < 60
    · obtain ⟨hlt, h60⟩ := hcont
      have hlt1 : (k : Int) < (l.length : Int) := by omega
      have h601 : (k : Int) < 60 := by omega
      have hk0 : (0 : Int) ≤ (k : Int) := by omega
      obtain ⟨a, ha⟩ := getElem?_some_of_lt hlt
      have hrow := HL.out.below HP.out.below
      obtain ⟨b, o, rfl⟩ : ∃ b o, aa = some ⟨b, o, none⟩ := by
        obtain ⟨x, cc, hv, -, -, h3⟩ := hrow
        rcases h3 with h3 | ⟨b, o, rfl, -⟩
        · rw [h3] at hlt; exact absurd hlt (by simp)
        · injection hv with hv; exact ⟨b, o, hv⟩
      obtain ⟨c0, c1, c2, c3⟩ := hrow.call ha
      have hbw : b < w.heap.size := by
        obtain ⟨c0', -, -, -⟩ := HL.out.call ha
        exact World.block_lt_of_cell? w _ c0'
      obtain ⟨kind, id, fill, bad⟩ := a
      simp only at c0 c1 c2 c3
      obtain ⟨D, hD⟩ : ∃ D, Ch.stepC C kind id fill bad = D := ⟨_, rfl⟩
      have HD := Lib.hid hD
      have HFD := Lib.hid (show Ch.Fit (6 + 6 * (k + 1)) sl D from by
        have := HP.out.fit.step (by omega) kind id fill bad
        rw [hD] at this
        exact this.mono (by omega))
      clear ha hrow hD
      have hwr := HP.out.below.size
      have hUlow := HP.out.low
      have HUL := Lib.hid hUlow
      have hbU : ¬ U' b := fun h => by have := hUlow b h; omega
      have htU : ¬ U' tb := HP.out.out.1
      clear hUlow
      obtain ⟨x0, x1, x2, x3, x4, x5, x6, x7, x8, x9, x10, x11, x12⟩ := (show BoxAt wr tb [.slice sa C.slots.length sc, .int .i64 (C.hand : Int), .int .i64 (C.disk.blocks : Int), .int .i64 (C.disk.size : Int), .slice la C.disk.lasting.length lc, .slice wa C.disk.waiting.length wq, .bool C.disk.lit, .int .i64 C.disk.after, .int .i64 C.disk.torn, .int .i64 C.disk.cut, .slice ka C.disk.keep.length kc, .bool C.disk.off, .int .i64 C.disk.count] from HP.out.box).thirteen
      have HSTEP := Lib.hid (show ∀ (wz : World), Below wr.heap.size wr wz → Calls Tryz.prog 8 #[.pointer (some ⟨c, 0, none⟩), .agg #[.slice sa C.slots.length sc, .int .i64 (C.hand : Int), .int .i64 (C.disk.blocks : Int), .int .i64 (C.disk.size : Int), .slice la C.disk.lasting.length lc, .slice wa C.disk.waiting.length wq, .bool C.disk.lit, .int .i64 C.disk.after, .int .i64 C.disk.torn, .int .i64 C.disk.cut, .slice ka C.disk.keep.length kc, .bool C.disk.off, .int .i64 C.disk.count], .agg #[.int .i64 kind, .int .i64 id, .int .u8 (fill.toNat : Int), .bool bad]] wz (Stepped8 U' G wz c dp D) from fun wz hz => by
        have hh := step08_any (HP.out.prog.below hz) (HP.out.ref.below HP.out.held hz) (HP.out.held.more hz.size) HP.out.apart HP.out.fit (by omega) A (fun wx hx => HS.out.below ((below_step HP.out.below hz).trans (hx.below HUL.out (by have := hz.size; omega)))) kind id fill bad HD.out
        unfold refCV at hh
        exact hh)
      go_upto_region 8 with fail
      go_cut [9, 10] (fun v u wx => ∃ (xb : Nat) (s2 : Shp), v = .pointer (some ⟨xb, 0, none⟩) ∧ u = .bool true ∧ CutS U' G wr c dp xb D wx s2)
      case first =>
        have q0 := Far.dcell8 (w := wr) (F := U') x0 htU
        have q1 := Far.dcell8 (w := wr) (F := U') x1 htU
        have q2 := Far.dcell8 (w := wr) (F := U') x2 htU
        have q3 := Far.dcell8 (w := wr) (F := U') x3 htU
        have q4 := Far.dcell8 (w := wr) (F := U') x4 htU
        have q5 := Far.dcell8 (w := wr) (F := U') x5 htU
        have q6 := Far.dcell8 (w := wr) (F := U') x6 htU
        have q7 := Far.dcell8 (w := wr) (F := U') x7 htU
        have q8 := Far.dcell8 (w := wr) (F := U') x8 htU
        have q9 := Far.dcell8 (w := wr) (F := U') x9 htU
        have q10 := Far.dcell8 (w := wr) (F := U') x10 htU
        have q11 := Far.dcell8 (w := wr) (F := U') x11 htU
        have q12 := Far.dcell8 (w := wr) (F := U') x12 htU
        have d0 := Far.dcell8 (w := wr) (F := U') c0 hbU
        have d1 := Far.dcell8 (w := wr) (F := U') c1 hbU
        have d2 := Far.dcell8 (w := wr) (F := U') c2 hbU
        have d3 := Far.dcell8 (w := wr) (F := U') c3 hbU
        refine wp_region_mix (fun w' => ∃ x : Far wr.drew U', w' = x.world) [11] 13 (by kernel_rfl) rfl ?_
        refine mix_reads_lit [0, 1, 2, 3, 4, 5] 7 (by kernel_rfl) (by kernel_rfl) (by kernel_rfl) (by kernel_rfl) rfl (FarC.of (Beside.refl _ _)) ?_
        simp only [pick, List.filterMap_cons, List.filterMap_nil, List.getElem?_cons_succ, List.getElem?_cons_zero]
        repeat (first | go_big_quiet_step (fail) | quiet_step (fail))
        refine wpQuiet_nil ?_
        clear q0 q1 q2 q3 q4 q5 q6 q7 q8 q9 q10 q11 q12 x0 x1 x2 x3 x4 x5 x6 x7 x8 x9 x10 x11 x12 d0 d1 d2 d3 c0 c1 c2 c3
        refine mix_two_lit 6 10 6 (by kernel_rfl) (by kernel_rfl) rfl (fun K hK => ?_) (fun K hK => ?_)
        · simp only [comesUp, List.getElem?_cons_succ, List.getElem?_cons_zero]
          refine if_mk rfl ?_
          go_simp
          refine (HSTEP.out wr.drew (Below.refl _ _).drew).mono ?_
          rintro e w6 ⟨U1, G1, ⟨sa6, sc6, la6, lc6, wa6, wq6, ka6, kc6⟩, rg6, rc6, rfl, hC6, hR6, hB6, hgU6, hgG6, hd6⟩
          refine hK _ _ (fun _ _ => FarC.of hB6) ?_
          clear hK K
          have HX := Lib.hid (show CIn U1 w6 c dp rg6 rc6 D ∧ RefC G1 w6 D ⟨sa6, sc6, la6, lc6, wa6, wq6, ka6, kc6⟩ ∧ Beside U' wr w6 ∧ Grows U' wr U1 w6 ∧ Grows G wr G1 w6 ∧ ∀ k, G1 k → ¬ U1 k from ⟨hC6, hR6, ⟨hB6.os, hB6.tape, hB6.output, hB6.size, hB6.block⟩, hgU6, hgG6, hd6⟩)
          clear hC6 hR6 hgU6 hgG6 hd6
          unfold refCV
          refine mix_reads_lit [7, 8, 9] 3 (by kernel_rfl) (by kernel_rfl) (by kernel_rfl) (by kernel_rfl) rfl (FarC.of hB6) ?_
          simp only [pick, List.filterMap_cons, List.filterMap_nil, List.getElem?_cons_succ, List.getElem?_cons_zero]
          repeat (first | go_big_quiet_step (fail) | quiet_step (fail))
          refine wpQuiet_nil ?_
          clear hB6
          obtain ⟨xb, hxb⟩ : ∃ xb, w6.heap.size = xb := ⟨_, rfl⟩
          have HXB := Lib.hid hxb
          refine mix_deed_lit 10 2 (by kernel_rfl) (by kernel_rfl) rfl (fun K hK => ?_)
          simp only [comesUp, List.getElem?_cons_succ, List.getElem?_cons_zero]
          refine if_mk rfl ?_
          go_simp
          obtain ⟨w7, hw7⟩ : ∃ z, z = w6.alloc (.cells #[.slice none 0 0, .int .i64 0, .int .i64 0, .int .i64 0, .slice none 0 0, .slice none 0 0, .bool false, .int .i64 0, .int .i64 0, .int .i64 0, .slice none 0 0, .bool false, .int .i64 0] 38) := ⟨_, rfl⟩
          try rw [hxb]
          rw [← hw7]
          have hz7 : BoxAt w7 xb zeroC := by rw [hw7]; exact BoxAt.newAt _ _ hxb [_, _, _, _, _, _, _, _, _, _, _, _, _] _
          have hb7 : Below w6.heap.size w6 w7 := by rw [hw7]; exact (Below.refl _ _).alloc (Nat.le_refl _) _
          clear hw7 hxb
          have hB6 := HX.out.2.2.1
          refine hK _ _ (fun _ _ => FarC.of (show Beside U' wr.drew w7 from ⟨by rw [hb7.os, hB6.os]; rfl, by rw [hb7.tape, hB6.tape]; rfl, by rw [hb7.output, hB6.output]; rfl, Nat.le_trans hB6.size hb7.size, fun k hk hu => by rw [hb7.block k (Nat.lt_of_lt_of_le hk hB6.size)]; exact hB6.block k hk hu⟩)) ?_
          clear hK K hB6
          have HZ7 := Lib.hid hz7
          have HB7 := Lib.hid hb7
          clear hz7 hb7
          obtain ⟨y0, y1, y2, y3, y4, y5, y6, y7, y8, y9, y10, y11, y12⟩ := HZ7.out.thirteen
          obtain ⟨f0, f1, f2, f3, f4, f5, f6, f7, f8, f9, f10, f11, f12⟩ := HZ7.out.thirteenF
          refine mix_deed_lit 11 1 (by kernel_rfl) (by kernel_rfl) rfl (fun K hK => ?_)
          simp only [comesUp, List.getElem?_cons_succ, List.getElem?_cons_zero]
          refine if_mk rfl ?_
          go_simp
          refine hK _ _ (fun h => by simp [keeps] at h) ?_
          clear hK K y0 y1 y2 y3 y4 y5 y6 y7 y8 y9 y10 y11 y12 f0 f1 f2 f3 f4 f5 f6 f7 f8 f9 f10 f11 f12
          obtain ⟨Z0, hZ0, hf, hgz⟩ := HZ7.out.fill13s (.slice sa6 D.slots.length sc6) (.int .i64 (D.hand : Int)) (.int .i64 (D.disk.blocks : Int)) (.int .i64 (D.disk.size : Int)) (.slice la6 D.disk.lasting.length lc6) (.slice wa6 D.disk.waiting.length wq6) (.bool D.disk.lit) (.int .i64 D.disk.after) (.int .i64 D.disk.torn) (.int .i64 D.disk.cut) (.slice ka6 D.disk.keep.length kc6) (.bool D.disk.off) (.int .i64 D.disk.count)
          rw [← hZ0]
          clear hZ0
          refine mix_flat_lit [12] 0 (by kernel_rfl) (by kernel_rfl) (by kernel_rfl) (by kernel_rfl) rfl ?_
          simp only [pick, List.filterMap_cons, List.filterMap_nil, List.getElem?_cons_succ, List.getElem?_cons_zero]
          repeat (first | go_big_quiet_step (fail) | quiet_step (fail))
          refine wpQuiet_nil ?_
          refine mix_done_lit (by kernel_rfl) ?_
          have HFIN := Lib.hid (show CutS U' G wr c dp xb D Z0 ⟨sa6, sc6, la6, lc6, wa6, wq6, ka6, kc6⟩ from by
            obtain ⟨g1, g2, g3, g4, g5, g6⟩ := HX.out
            have hU1 := g1.held
            have e1 := HXB.out
            have hs6 := g3.size
            have hs7 := HB7.out.size
            have hlz := HZ7.out.lt
            have hG1 : ∀ k, G1 k → k < w6.heap.size := fun k hk => (g5 k hk).2
            have hgz2 := hgz.size
            refine ⟨U1, G1, rg6, rc6, (g1.below HB7.out).keep hgz (fun h => by have := hU1 _ h; omega), g2.on fun k hk => ?_, hf, ⟨by rw [hgz.os, HB7.out.os, g3.os], by rw [hgz.tape, HB7.out.tape, g3.tape], by rw [hgz.output, HB7.out.output, g3.output], by omega, fun k hk hu => ?_⟩, fun k hk => ⟨(g4 k hk).1, by have := hU1 k hk; omega⟩, fun k hk => ⟨(g5 k hk).1, by have := hG1 k hk; omega⟩, g6, by omega, fun h => by have := hU1 _ h; omega, fun h => by have := hG1 _ h; omega⟩
            · have := hG1 k hk
              rw [hgz.block k (by omega) (by intro e; have := Option.some.inj e; omega), HB7.out.block k this]
            · rw [hgz.block k (by omega) (by intro e; have := Option.some.inj e; omega), HB7.out.block k (by omega), g3.block k hk hu])
          clear hf hgz
          go_wp2_with fail
          go_meet
          exact ⟨xb, _, rfl, rfl, HFIN.out⟩
        · simp only [comesUp, List.getElem?_cons_succ, List.getElem?_cons_zero]
          refine if_mk rfl ?_
          go_simp
          obtain ⟨xb, hxb⟩ : ∃ xb, wr.heap.size = xb := ⟨_, rfl⟩
          obtain ⟨w7, hw7⟩ : ∃ z, z = (wr.alloc (.cells #[.slice none 0 0, .int .i64 0, .int .i64 0, .int .i64 0, .slice none 0 0, .slice none 0 0, .bool false, .int .i64 0, .int .i64 0, .int .i64 0, .slice none 0 0, .bool false, .int .i64 0] 38)).drew := ⟨_, rfl⟩
          rw [hxb, ← hw7]
          have hz7 : BoxAt w7 xb zeroC := by rw [hw7]; exact BoxAt.on (w := wr.alloc _) (BoxAt.newAt wr _ hxb [_, _, _, _, _, _, _, _, _, _, _, _, _] _) rfl
          have hb7 : Below wr.heap.size wr w7 := by rw [hw7]; exact ((Below.refl _ _).alloc (Nat.le_refl _) _).drew
          clear hw7
          have HXB := Lib.hid hxb
          clear hxb
          refine hK _ _ (fun _ _ => FarC.of (show Beside U' wr.drew w7 from ⟨hb7.os, hb7.tape, hb7.output, hb7.size, fun k hk _ => hb7.block k hk⟩)) ?_
          clear hK K
          have HZ7 := Lib.hid hz7
          have HB7 := Lib.hid hb7
          refine mix_deed_lit 6 5 (by kernel_rfl) (by kernel_rfl) rfl (fun K hK => ?_)
          simp only [comesUp, List.getElem?_cons_succ, List.getElem?_cons_zero]
          refine if_mk rfl ?_
          go_simp
          refine (HSTEP.out w7 hb7).mono ?_
          rintro e w6 ⟨U1, G1, ⟨sa6, sc6, la6, lc6, wa6, wq6, ka6, kc6⟩, rg6, rc6, rfl, hC6, hR6, hB6, hgU6, hgG6, hd6⟩
          have hB6' : Beside U' wr.drew w6 := ⟨by rw [hB6.os, hb7.os]; rfl, by rw [hB6.tape, hb7.tape]; rfl, by rw [hB6.output, hb7.output]; rfl, Nat.le_trans hb7.size hB6.size, fun k hk hu => by rw [hB6.block k (Nat.lt_of_lt_of_le hk hb7.size) hu]; exact hb7.block k hk⟩
          refine hK _ _ (fun _ _ => FarC.of hB6') ?_
          clear hK K hz7 hb7
          have HX := Lib.hid (show CIn U1 w6 c dp rg6 rc6 D ∧ RefC G1 w6 D ⟨sa6, sc6, la6, lc6, wa6, wq6, ka6, kc6⟩ ∧ Beside U' w7 w6 ∧ Grows U' w7 U1 w6 ∧ Grows G w7 G1 w6 ∧ ∀ k, G1 k → ¬ U1 k from ⟨hC6, hR6, hB6, hgU6, hgG6, hd6⟩)
          clear hC6 hR6 hgU6 hgG6 hd6 hB6
          unfold refCV
          refine mix_reads_lit [7, 8, 9] 2 (by kernel_rfl) (by kernel_rfl) (by kernel_rfl) (by kernel_rfl) rfl (FarC.of hB6') ?_
          simp only [pick, List.filterMap_cons, List.filterMap_nil, List.getElem?_cons_succ, List.getElem?_cons_zero]
          repeat (first | go_big_quiet_step (fail) | quiet_step (fail))
          refine wpQuiet_nil ?_
          clear hB6'
          have hUx : ¬ U' xb := fun h => by have := HP.out.prog.held _ h; have := HXB.out; omega
          have HZ8 := Lib.hid (HZ7.out.beside HX.out.2.2.1 hUx)
          obtain ⟨y0, y1, y2, y3, y4, y5, y6, y7, y8, y9, y10, y11, y12⟩ := HZ8.out.thirteen
          obtain ⟨f0, f1, f2, f3, f4, f5, f6, f7, f8, f9, f10, f11, f12⟩ := HZ8.out.thirteenF
          refine mix_deed_lit 11 1 (by kernel_rfl) (by kernel_rfl) rfl (fun K hK => ?_)
          simp only [comesUp, List.getElem?_cons_succ, List.getElem?_cons_zero]
          refine if_mk rfl ?_
          go_simp
          refine hK _ _ (fun h => by simp [keeps] at h) ?_
          clear hK K y0 y1 y2 y3 y4 y5 y6 y7 y8 y9 y10 y11 y12 f0 f1 f2 f3 f4 f5 f6 f7 f8 f9 f10 f11 f12
          obtain ⟨Z0, hZ0, hf, hgz⟩ := HZ8.out.fill13s (.slice sa6 D.slots.length sc6) (.int .i64 (D.hand : Int)) (.int .i64 (D.disk.blocks : Int)) (.int .i64 (D.disk.size : Int)) (.slice la6 D.disk.lasting.length lc6) (.slice wa6 D.disk.waiting.length wq6) (.bool D.disk.lit) (.int .i64 D.disk.after) (.int .i64 D.disk.torn) (.int .i64 D.disk.cut) (.slice ka6 D.disk.keep.length kc6) (.bool D.disk.off) (.int .i64 D.disk.count)
          rw [← hZ0]
          clear hZ0
          refine mix_flat_lit [12] 0 (by kernel_rfl) (by kernel_rfl) (by kernel_rfl) (by kernel_rfl) rfl ?_
          simp only [pick, List.filterMap_cons, List.filterMap_nil, List.getElem?_cons_succ, List.getElem?_cons_zero]
          repeat (first | go_big_quiet_step (fail) | quiet_step (fail))
          refine wpQuiet_nil ?_
          refine mix_done_lit (by kernel_rfl) ?_
          have HFIN := Lib.hid (show CutS U' G wr c dp xb D Z0 ⟨sa6, sc6, la6, lc6, wa6, wq6, ka6, kc6⟩ from by
            obtain ⟨g1, g2, g3, g4, g5, g6⟩ := HX.out
            have hU1 := g1.held
            have e1 := HXB.out
            have hs6 := g3.size
            have hs7 := HB7.out.size
            have hlz := HZ7.out.lt
            have hgz2 := hgz.size
            have hpu := HP.out.prog.held
            have hpg := HP.out.held
            have hUxb : ¬ U1 xb := fun h => by
              rcases (g4 _ h).1 with q | q
              · exact hUx q
              · omega
            have hGxb : ¬ G1 xb := fun h => by
              rcases (g5 _ h).1 with q | q
              · have := hpg _ q; omega
              · omega
            refine ⟨U1, G1, rg6, rc6, g1.keep hgz hUxb, g2.on fun k hk => ?_, hf, ⟨by rw [hgz.os, g3.os, HB7.out.os], by rw [hgz.tape, g3.tape, HB7.out.tape], by rw [hgz.output, g3.output, HB7.out.output], by omega, fun k hk hu => ?_⟩, fun k hk => ⟨(g4 k hk).1.imp (fun q => q) fun q => by omega, by have := hU1 k hk; omega⟩, fun k hk => ⟨(g5 k hk).1.imp (fun q => q) fun q => by omega, by have := (g5 k hk).2; omega⟩, g6, by omega, hUxb, hGxb⟩
            · have := (g5 k hk).2
              exact hgz.block k (by omega) (by intro e; have e2 := Option.some.inj e; exact hGxb (by first | (rw [e2]; exact hk) | (rw [← e2]; exact hk)))
            · rw [hgz.block k (by omega) (by intro e; have := Option.some.inj e; omega), g3.block k (by omega) hu, HB7.out.block k hk])
          clear hf hgz hUx
          go_wp2_with fail
          go_meet
          exact ⟨xb, _, rfl, rfl, HFIN.out⟩
      case rest =>
        obtain ⟨xb, ⟨sa2, sc2, la2, lc2, wa2, wq2, ka2, kc2⟩, rfl, rfl, U2, G2, rg2, rc2, hC2, hR2, hX2, hB2, hgU2, hgG2, hd2, hxl, hxU, hxG⟩ := hcut
        clear x0 x1 x2 x3 x4 x5 x6 x7 x8 x9 x10 x11 x12 c0 c1 c2 c3 HSTEP
        have HT := Lib.hid (HP.out.box.beside hB2 htU)
        have HX2 := Lib.hid hX2
        have HC2 := Lib.hid hC2
        have HR2 := Lib.hid hR2
        have HB2 := Lib.hid hB2
        have HGU2 := Lib.hid hgU2
        have HGG2 := Lib.hid hgG2
        have HDJ := Lib.hid hd2
        have htbl : tb < wr.heap.size := HP.out.box.lt
        clear hC2 hR2 hX2 hB2 hgU2 hgG2 hd2 hxU hxG
        obtain ⟨z0, z1, z2, z3, z4, z5, z6, z7, z8, z9, z10, z11, z12⟩ := (show BoxAt wc xb [.slice sa2 D.slots.length sc2, .int .i64 (D.hand : Int), .int .i64 (D.disk.blocks : Int), .int .i64 (D.disk.size : Int), .slice la2 D.disk.lasting.length lc2, .slice wa2 D.disk.waiting.length wq2, .bool D.disk.lit, .int .i64 D.disk.after, .int .i64 D.disk.torn, .int .i64 D.disk.cut, .slice ka2 D.disk.keep.length kc2, .bool D.disk.off, .int .i64 D.disk.count] from HX2.out).thirteen
        obtain ⟨y0, y1, y2, y3, y4, y5, y6, y7, y8, y9, y10, y11, y12⟩ := (show BoxAt wc tb [.slice sa C.slots.length sc, .int .i64 (C.hand : Int), .int .i64 (C.disk.blocks : Int), .int .i64 (C.disk.size : Int), .slice la C.disk.lasting.length lc, .slice wa C.disk.waiting.length wq, .bool C.disk.lit, .int .i64 C.disk.after, .int .i64 C.disk.torn, .int .i64 C.disk.cut, .slice ka C.disk.keep.length kc, .bool C.disk.off, .int .i64 C.disk.count] from HT.out).thirteen
        obtain ⟨f0, f1, f2, f3, f4, f5, f6, f7, f8, f9, f10, f11, f12⟩ := (show BoxAt wc tb [.slice sa C.slots.length sc, .int .i64 (C.hand : Int), .int .i64 (C.disk.blocks : Int), .int .i64 (C.disk.size : Int), .slice la C.disk.lasting.length lc, .slice wa C.disk.waiting.length wq, .bool C.disk.lit, .int .i64 C.disk.after, .int .i64 C.disk.torn, .int .i64 C.disk.cut, .slice ka C.disk.keep.length kc, .bool C.disk.off, .int .i64 C.disk.count] from HT.out).thirteenF
        go_upto_region 10 with fail
        refine wp_name fun V hV => ?_
        obtain ⟨Z0, hZ0, hf, hgz⟩ := (show BoxAt wc tb [.slice sa C.slots.length sc, .int .i64 (C.hand : Int), .int .i64 (C.disk.blocks : Int), .int .i64 (C.disk.size : Int), .slice la C.disk.lasting.length lc, .slice wa C.disk.waiting.length wq, .bool C.disk.lit, .int .i64 C.disk.after, .int .i64 C.disk.torn, .int .i64 C.disk.cut, .slice ka C.disk.keep.length kc, .bool C.disk.off, .int .i64 C.disk.count] from HT.out).fill13s (.slice sa2 D.slots.length sc2) (.int .i64 (D.hand : Int)) (.int .i64 (D.disk.blocks : Int)) (.int .i64 (D.disk.size : Int)) (.slice la2 D.disk.lasting.length lc2) (.slice wa2 D.disk.waiting.length wq2) (.bool D.disk.lit) (.int .i64 D.disk.after) (.int .i64 D.disk.torn) (.int .i64 D.disk.cut) (.slice ka2 D.disk.keep.length kc2) (.bool D.disk.off) (.int .i64 D.disk.count)
        rw [← hZ0] at hV
        clear hZ0
        subst hV
        have HPV := Lib.hid (show PlayC w V c dp tb (6 + 6 * (k + 1)) sl D U2 G2 ⟨sa2, sc2, la2, lc2, wa2, wq2, ka2, kc2⟩ rg2 rc2 from by
          have hs2 := HB2.out.size
          have hsz := hgz.size
          have hUtb : ¬ U2 tb := fun h => by
            rcases (HGU2.out _ h).1 with q | q
            · exact htU q
            · omega
          have hGtb : ¬ G2 tb := fun h => by
            rcases (HGG2.out _ h).1 with q | q
            · exact HP.out.out.2 q
            · omega
          exact ⟨HFD.out, HC2.out.keep hgz hUtb, HR2.out.on fun q hq => hgz.block q (HGG2.out q hq).2 (by intro e; have e2 := Option.some.inj e; exact hGtb (by first | (rw [e2]; exact hq) | (rw [← e2]; exact hq))), hf, fun q hq => by have := (HGG2.out q hq).2; omega, HDJ.out, ⟨hUtb, hGtb⟩, fun q hq => by
            rcases (HGU2.out q hq).1 with h | h
            · exact HUL.out q h
            · omega, HP.out.tbl, (HP.out.below.trans (HB2.out.below HUL.out hwr)).trans (below_of_grown hgz HP.out.tbl (by omega))⟩)
        clear hgz hf HT HX2 HC2 HR2 HB2 HGU2 HGG2 HDJ z0 z1 z2 z3 z4 z5 z6 z7 z8 z9 z10 z11 z12 y0 y1 y2 y3 y4 y5 y6 y7 y8 y9 y10 y11 y12 f0 f1 f2 f3 f4 f5 f6 f7 f8 f9 f10 f11 f12
        obtain ⟨L, hLL⟩ : ∃ L, Ch.held D = L := ⟨_, rfl⟩
        obtain ⟨dn, hdn⟩ : ∃ dn, Ch.dirty D = dn := ⟨_, rfl⟩
        have HLL := Lib.hid hLL
        have HDN := Lib.hid hdn
        clear hLL hdn
        have HL64 := Lib.hid HPV.out.fit.ok.len.2
        obtain ⟨x0, x1, x2, x3, x4, x5, x6, x7, x8, x9, x10, x11, x12⟩ := (show BoxAt V tb [.slice sa2 D.slots.length sc2, .int .i64 (D.hand : Int), .int .i64 (D.disk.blocks : Int), .int .i64 (D.disk.size : Int), .slice la2 D.disk.lasting.length lc2, .slice wa2 D.disk.waiting.length wq2, .bool D.disk.lit, .int .i64 D.disk.after, .int .i64 D.disk.torn, .int .i64 D.disk.cut, .slice ka2 D.disk.keep.length kc2, .bool D.disk.off, .int .i64 D.disk.count] from HPV.out.box).thirteen
        have q0 := Near.cell (w := V.drew) (row := none) (show V.drew.cell? ⟨tb, 0, none⟩ = _ from x0) (by simp)
        have q1 := Near.cell (w := V.drew) (row := none) (show V.drew.cell? ⟨tb, 1, none⟩ = _ from x1) (by simp)
        have q2 := Near.cell (w := V.drew) (row := none) (show V.drew.cell? ⟨tb, 2, none⟩ = _ from x2) (by simp)
        have q3 := Near.cell (w := V.drew) (row := none) (show V.drew.cell? ⟨tb, 3, none⟩ = _ from x3) (by simp)
        have q4 := Near.cell (w := V.drew) (row := none) (show V.drew.cell? ⟨tb, 4, none⟩ = _ from x4) (by simp)
        have q5 := Near.cell (w := V.drew) (row := none) (show V.drew.cell? ⟨tb, 5, none⟩ = _ from x5) (by simp)
        have q6 := Near.cell (w := V.drew) (row := none) (show V.drew.cell? ⟨tb, 6, none⟩ = _ from x6) (by simp)
        have q7 := Near.cell (w := V.drew) (row := none) (show V.drew.cell? ⟨tb, 7, none⟩ = _ from x7) (by simp)
        have q8 := Near.cell (w := V.drew) (row := none) (show V.drew.cell? ⟨tb, 8, none⟩ = _ from x8) (by simp)
        have q9 := Near.cell (w := V.drew) (row := none) (show V.drew.cell? ⟨tb, 9, none⟩ = _ from x9) (by simp)
        have q10 := Near.cell (w := V.drew) (row := none) (show V.drew.cell? ⟨tb, 10, none⟩ = _ from x10) (by simp)
        have q11 := Near.cell (w := V.drew) (row := none) (show V.drew.cell? ⟨tb, 11, none⟩ = _ from x11) (by simp)
        have q12 := Near.cell (w := V.drew) (row := none) (show V.drew.cell? ⟨tb, 12, none⟩ = _ from x12) (by simp)
        refine wp_region_mix (fun w' => ∃ x : Near V.drew none, w' = x.world) [] 17 (by kernel_rfl) rfl ?_
        refine mix_reads_lit [0, 1, 2, 3, 5] 12 (by kernel_rfl) (by kernel_rfl) (by kernel_rfl) (by kernel_rfl) rfl (NearC.of (World.grownBy.refl _ _)) ?_
        simp only [pick, List.filterMap_cons, List.filterMap_nil, List.getElem?_cons_succ, List.getElem?_cons_zero]
        repeat (first | go_big_quiet_step (fail) | quiet_step (fail))
        refine wpQuiet_nil ?_
        clear x0 x1 x2 x3 x4 x5 x6 x7 x8 x9 x10 x11 x12
        have b0 : Below V.heap.size V V.drew := (Below.refl _ _).drew
        refine mix_deed_lit 4 11 (by kernel_rfl) (by kernel_rfl) rfl (fun K hK => ?_)
        simp only [comesUp, List.getElem?_cons_succ, List.getElem?_cons_zero]
        refine if_mk rfl ?_
        go_simp
        refine (cheld_is (HPV.out.prog.below b0) HL64.out L HLL.out).mono ?_
        rintro e u1 ⟨⟨a1, cc1, rfl, ho1⟩, hb1⟩
        have b1 : Below V.heap.size V u1 := below_step b0 hb1
        have bd1 : Below V.heap.size V.drew u1 := ⟨b1.os, b1.tape, b1.output, b1.size, b1.block⟩
        have hi1 := ho1.ints
        refine hK _ _ (fun _ _ => NearC.of (grown_of_below bd1 (Nat.le_refl _) _)) ?_
        clear hK K ho1 hb1 b0 bd1
        have HREFH := Lib.hid (show Calls Tryz.prog 21 #[.agg #[.slice sa2 D.slots.length sc2, .int .i64 (D.hand : Int), .int .i64 (D.disk.blocks : Int), .int .i64 (D.disk.size : Int), .slice la2 D.disk.lasting.length lc2, .slice wa2 D.disk.waiting.length wq2, .bool D.disk.lit, .int .i64 D.disk.after, .int .i64 D.disk.torn, .int .i64 D.disk.cut, .slice ka2 D.disk.keep.length kc2, .bool D.disk.off, .int .i64 D.disk.count]] u1 fun e w' => (∃ a cc, e = .returned (.slice a L.length cc) ∧ OwnI w' u1.heap.size (.slice a L.length cc) L) ∧ Below u1.heap.size u1 w' from by
          have hh := refCheld_is (HPV.out.ref.below HPV.out.held b1) (HPV.out.held.more b1.size) HL64.out L HLL.out
          unfold refCV at hh
          exact hh)
        refine mix_deed_lit 6 10 (by kernel_rfl) (by kernel_rfl) rfl (fun K hK => ?_)
        simp only [comesUp, List.getElem?_cons_succ, List.getElem?_cons_zero]
        refine if_mk rfl ?_
        go_simp
        refine HREFH.out.mono ?_
        rintro e u2 ⟨⟨a2, cc2, rfl, ho2⟩, hb2⟩
        have b2 : Below V.heap.size V u2 := below_step b1 hb2
        have bd2 : Below V.heap.size V.drew u2 := ⟨b2.os, b2.tape, b2.output, b2.size, b2.block⟩
        have hi2 := ho2.ints
        have hi12 := hi1.below hb2
        refine hK _ _ (fun _ _ => NearC.of (grown_of_below bd2 (Nat.le_refl _) _)) ?_
        clear hK K ho2 hb2 b1 bd2 hi1 HREFH
        have hsi := sameInts_any _ _ L L u2 hi12 hi2
        rw [show (L == L) = true from by simp] at hsi
        refine mix_deed_lit 7 9 (by kernel_rfl) (by kernel_rfl) rfl (fun K hK => ?_)
        simp only [comesUp, List.getElem?_cons_succ, List.getElem?_cons_zero]
        refine if_mk rfl ?_
        go_simp
        refine hsi.mono ?_
        rintro e u3 ⟨rfl, hb3⟩
        have b3 : Below V.heap.size V u3 := below_step b2 hb3
        have bd3 : Below V.heap.size V.drew u3 := ⟨b3.os, b3.tape, b3.output, b3.size, b3.block⟩
        refine hK _ _ (fun _ _ => NearC.of (grown_of_below bd3 (Nat.le_refl _) _)) ?_
        clear hK K hb3 b2 hi12 hi2 hsi
        refine mix_reads_lit [8, 9, 10, 11, 13] 4 (by kernel_rfl) (by kernel_rfl) (by kernel_rfl) (by kernel_rfl) rfl (NearC.of (grown_of_below bd3 (Nat.le_refl _) _)) ?_
        simp only [pick, List.filterMap_cons, List.filterMap_nil, List.getElem?_cons_succ, List.getElem?_cons_zero]
        repeat (first | go_big_quiet_step (fail) | quiet_step (fail))
        refine wpQuiet_nil ?_
        clear q0 q1 q2 q3 q4 q5 q6 q7 q8 q9 q10 q11 q12 bd3
        refine mix_deed_lit 12 3 (by kernel_rfl) (by kernel_rfl) rfl (fun K hK => ?_)
        simp only [comesUp, List.getElem?_cons_succ, List.getElem?_cons_zero]
        refine if_mk rfl ?_
        go_simp
        refine (cdirty_is (HPV.out.prog.below b3) HL64.out dn HDN.out).mono ?_
        rintro e u4 ⟨rfl, hb4⟩
        have b4 : Below V.heap.size V u4 := below_step b3 hb4
        have bd4 : Below V.heap.size V.drew u4 := ⟨b4.os, b4.tape, b4.output, b4.size, b4.block⟩
        refine hK _ _ (fun _ _ => NearC.of (grown_of_below bd4 (Nat.le_refl _) _)) ?_
        clear hK K hb4 b3 bd4
        have HREFD := Lib.hid (show Calls Tryz.prog 23 #[.agg #[.slice sa2 D.slots.length sc2, .int .i64 (D.hand : Int), .int .i64 (D.disk.blocks : Int), .int .i64 (D.disk.size : Int), .slice la2 D.disk.lasting.length lc2, .slice wa2 D.disk.waiting.length wq2, .bool D.disk.lit, .int .i64 D.disk.after, .int .i64 D.disk.torn, .int .i64 D.disk.cut, .slice ka2 D.disk.keep.length kc2, .bool D.disk.off, .int .i64 D.disk.count]] u4 fun e w' => e = .returned (.int .i64 (dn : Int)) ∧ Below u4.heap.size u4 w' from by
          have hh := refCdirty_is (HPV.out.ref.below HPV.out.held b4) (HPV.out.held.more b4.size) HL64.out dn HDN.out
          unfold refCV at hh
          exact hh)
        refine mix_deed_lit 14 2 (by kernel_rfl) (by kernel_rfl) rfl (fun K hK => ?_)
        simp only [comesUp, List.getElem?_cons_succ, List.getElem?_cons_zero]
        refine if_mk rfl ?_
        go_simp
        refine HREFD.out.mono ?_
        rintro e u5 ⟨rfl, hb5⟩
        have b5 : Below V.heap.size V u5 := below_step b4 hb5
        have bd5 : Below V.heap.size V.drew u5 := ⟨b5.os, b5.tape, b5.output, b5.size, b5.block⟩
        refine hK _ _ (fun _ _ => NearC.of (grown_of_below bd5 (Nat.le_refl _) _)) ?_
        clear hK K hb5 b4 HREFD
        refine mix_reads_lit [15, 16] 0 (by kernel_rfl) (by kernel_rfl) (by kernel_rfl) (by kernel_rfl) rfl (NearC.of (grown_of_below bd5 (Nat.le_refl _) _)) ?_
        simp only [pick, List.filterMap_cons, List.filterMap_nil, List.getElem?_cons_succ, List.getElem?_cons_zero]
        repeat (first | go_big_quiet_step (fail) | quiet_step (fail))
        refine wpQuiet_nil ?_
        refine mix_done_lit (by kernel_rfl) ?_
        have HB5 := Lib.hid b5
        clear b5 bd5
        go_wp2_with fail
        go_roundw
        case rel => exact ⟨k + 1, D, U2, G2, ⟨sa2, sc2, la2, lc2, wa2, wq2, ka2, kc2⟩, rg2, rc2, by omega, by omega, by go_num, HPV.out.later HB5.out⟩
        case measure => simp [intOf]; omega
    · by_cases hlt : k < l.length
      · have hlt1 : (k : Int) < (l.length : Int) := by omega
        have h601 : ¬ (k : Int) < 60 := by omega
        clear hcont
        go_wp2_with (go_at_call 18; (refine (awake08_any _ A (HS.out.below HP.out.below)).mono ?_); (rintro e w9 ⟨rfl, hb9⟩); (have HB9 := Lib.hid hb9); (clear hb9))
        go_ret
        exact ⟨rfl, below_step HP.out.below HB9.out⟩
      · have hlt1 : ¬ (k : Int) < (l.length : Int) := by omega
        clear hcont
        go_wp2_with (go_at_call 18; (refine (awake08_any _ A (HS.out.below HP.out.below)).mono ?_); (rintro e w9 ⟨rfl, hb9⟩); (have HB9 := Lib.hid hb9); (clear hb9))
        go_ret
        exact ⟨rfl, below_step HP.out.below HB9.out⟩
end Go.Proofs.YtflbioiildndoaaGreatDoor

