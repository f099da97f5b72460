/- the statements of caches: CacheWrites (printed by wip/tools/rc/mk_writes.py and gen_refc.py) -/
import Derived.Test.YtflbioiildndoaaGreatDoorCachePlays
namespace Go.Proofs.YtflbioiildndoaaGreatDoor
open Go.RowKit
set_option linter.unusedVariables false
set_option linter.unusedSimpArgs false

set_option maxRecDepth 100000 in
set_option maxHeartbeats 8000000 in
theorem cacheWrites_walk (n : Int) (lv : Value) (l : List CCall) (w : World) (A : Nat → Addr) (hs : Sents w A) (hl : RowAt eCC w lv l) :
    Calls Tryz.prog 3 #[.int .i64 n, lv] w fun e w' => e = .returned (.bool true) ∧ Below w.heap.size w w' := by
  obtain ⟨M, hM⟩ : ∃ M, Ch.madeD 6 = M := ⟨_, rfl⟩
  obtain ⟨sl, hsn⟩ : ∃ sl, slotsN n = sl := ⟨_, rfl⟩
  have hsb : 3 ≤ sl ∧ sl ≤ 6 := by rw [← hsn]; exact slotsN_bd n
  have hfit := Ch.new_fit sl hsb
  rw [hM] at hfit
  have HFIT := Lib.hid hfit
  have HS := Lib.hid hs
  have HM := Lib.hid hM
  have HSN := Lib.hid hsn
  have HL := Lib.hid hl
  obtain ⟨aa, ac, rfl, -, -, -⟩ := id hl
  clear hs hM hsn hl hfit
  go_enter Tryz.func3, Tryz.ntmps3
  go_upto_region 2 with (first
    | (go_at_call 5; (refine (made08_is (sl : Int) sl rfl (by omega) M HM.out w A HS.out).mono ?_); (rintro e w1 ⟨⟨c, dp, rg, rc, U, rfl, hC, hge⟩, hb1⟩); (have HC := Lib.hid hC); (have HGE := Lib.hid hge); (have HB1 := Lib.hid hb1); (clear hC hge hb1))
    | (go_at_call 6; (refine (slots08_is n sl HSN.out _).mono ?_); (rintro e w0 ⟨rfl, rfl⟩)))
  obtain ⟨C0, hC0⟩ : ∃ C0, Ch.new M sl = C0 := ⟨_, rfl⟩
  have HWLD := Lib.hid (show Calls Tryz.prog 7 #[.int .i64 (sl : Int)] w1 (GivesC (fun _ => False) w1 C0) from by
    have hh := world08_is (sl : Int) sl rfl ⟨hsb.1, by omega⟩ M HM.out w1
    rw [hC0] at hh
    exact hh)
  rw [hC0] at HC HFIT
  clear hC0
  go_upto_region 5 with (first
    | (go_at_call 7; (refine HWLD.out.mono ?_); (rintro e w2 ⟨⟨⟨sa2, sc2, la2, lc2, wa2, wq2, ka2, kc2⟩, rfl, h2⟩, hb2⟩); (have H2 := Lib.hid h2); (have HB2 := Lib.hid hb2); (clear h2 hb2); (unfold refCV))
    | (go_at_call 6; (refine (slots08_is n sl HSN.out _).mono ?_); (rintro e w0 ⟨rfl, rfl⟩)))
  obtain ⟨tb, htb⟩ : ∃ tb, w2.heap.size = tb := ⟨_, rfl⟩
  refine wp_name fun V hV => ?_
  have hv : BoxAt V tb [.slice sa2 C0.slots.length sc2, .int .i64 (C0.hand : Int), .int .i64 (C0.disk.blocks : Int), .int .i64 (C0.disk.size : Int), .slice la2 C0.disk.lasting.length lc2, .slice wa2 C0.disk.waiting.length wq2, .bool C0.disk.lit, .int .i64 C0.disk.after, .int .i64 C0.disk.torn, .int .i64 C0.disk.cut, .slice ka2 C0.disk.keep.length kc2, .bool C0.disk.off, .int .i64 C0.disk.count] ∧ Below w2.heap.size w2 V := by
    rw [hV]
    exact ⟨BoxAt.newAt _ _ htb [_, _, _, _, _, _, _, _, _, _, _, _, _] _, by go_grown⟩
  have HP := Lib.hid (show PlayC w V c dp tb 6 sl C0 U (More (fun _ => False) w1 w2) ⟨sa2, sc2, la2, lc2, wa2, wq2, ka2, kc2⟩ rg rc from by
    have h1 := HB1.out.size
    have h2 := HB2.out.size
    have h3 := hv.2.size
    have hCV := (HC.out.below HB2.out).below hv.2
    have hUl : ∀ k, U k → k < w1.heap.size := HC.out.held
    exact ⟨HFIT.out, hCV, H2.out.on fun k hk => hv.2.block k (hk.elim (fun q => q.elim) fun q => q.2), hv.1, fun k hk => hk.elim (fun q => q.elim) fun q => by omega, fun k hk hu => hk.elim (fun q => q.elim) fun q => by have := hUl k hu; omega, ⟨fun hu => by have := hUl _ hu; omega, fun hk => hk.elim (fun q => q.elim) fun q => by omega⟩, HGE.out, by omega, below_step (below_step HB1.out HB2.out) hv.2⟩)
  clear hV hv HWLD HC HGE H2 HB2 HB1 HFIT
  rw [htb]
  clear htb
  go_wp2_with fail
  go_loopw [8] (fun i wr => ∃ (k : Nat) (C : Ch.Cache) (U G : Nat → Prop) (s : Shp) (rg rc : Nat), k ≤ l.length ∧ k ≤ 60 ∧ i = .int .i64 (k : Int) ∧ PlayC w wr c dp tb (6 + 6 * k) sl C U G s rg rc) (fun i _ => 60 - (intOf i).toNat)
  case atStart => exact ⟨0, _, _, _, _, _, _, by omega, by omega, rfl, HP.out⟩
  case round =>
    clear HP
    obtain ⟨k, C, U', G, ⟨sa, sc, la, lc, wa, wq, ka, kc⟩, rg', rc', hk, hk6, rfl, hp⟩ := hrel
    have HP := Lib.hid hp
    clear hp
    have hlenr := hk
    by_cases hcont : k < l.length ∧ k < 60
    · obtain ⟨hlt, h60⟩ := hcont
      have hlt1 : (k : Int) < (l.length : Int) := by omega
      have h601 : (k : Int) < 60 := by omega
      have hk0 : (0 : Int) ≤ (k : Int) := by omega
      obtain ⟨a, ha⟩ := getElem?_some_of_lt hlt
      have hrow := HL.out.below HP.out.below
      obtain ⟨b, o, rfl⟩ : ∃ b o, aa = some ⟨b, o, none⟩ := by
        obtain ⟨x, cc, hv, -, -, h3⟩ := hrow
        rcases h3 with h3 | ⟨b, o, rfl, -⟩
        · rw [h3] at hlt; exact absurd hlt (by simp)
        · injection hv with hv; exact ⟨b, o, hv⟩
      obtain ⟨c0, c1, c2, c3⟩ := hrow.call ha
      have hbw : b < w.heap.size := by
        obtain ⟨c0', -, -, -⟩ := HL.out.call ha
        exact World.block_lt_of_cell? w _ c0'
      obtain ⟨kind, id, fill, bad⟩ := a
      simp only at c0 c1 c2 c3
      obtain ⟨D, hD⟩ : ∃ D, Ch.stepC C kind id fill bad = D := ⟨_, rfl⟩
      have HD := Lib.hid hD
      have HFD := Lib.hid (show Ch.Fit (6 + 6 * (k + 1)) sl D from by
        have := HP.out.fit.step (by omega) kind id fill bad
        rw [hD] at this
        exact this.mono (by omega))
      clear ha hrow hD
      have hwr := HP.out.below.size
      have hUlow := HP.out.low
      have HUL := Lib.hid hUlow
      have hbU : ¬ U' b := fun h => by have := hUlow b h; omega
      have htU : ¬ U' tb := HP.out.out.1
      clear hUlow
      obtain ⟨x0, x1, x2, x3, x4, x5, x6, x7, x8, x9, x10, x11, x12⟩ := (show BoxAt wr tb [.slice sa C.slots.length sc, .int .i64 (C.hand : Int), .int .i64 (C.disk.blocks : Int), .int .i64 (C.disk.size : Int), .slice la C.disk.lasting.length lc, .slice wa C.disk.waiting.length wq, .bool C.disk.lit, .int .i64 C.disk.after, .int .i64 C.disk.torn, .int .i64 C.disk.cut, .slice ka C.disk.keep.length kc, .bool C.disk.off, .int .i64 C.disk.count] from HP.out.box).thirteen
      have HSTEP := Lib.hid (show ∀ (wz : World), Below wr.heap.size wr wz → Calls Tryz.prog 8 #[.pointer (some ⟨c, 0, none⟩), .agg #[.slice sa C.slots.length sc, .int .i64 (C.hand : Int), .int .i64 (C.disk.blocks : Int), .int .i64 (C.disk.size : Int), .slice la C.disk.lasting.length lc, .slice wa C.disk.waiting.length wq, .bool C.disk.lit, .int .i64 C.disk.after, .int .i64 C.disk.torn, .int .i64 C.disk.cut, .slice ka C.disk.keep.length kc, .bool C.disk.off, .int .i64 C.disk.count], .agg #[.int .i64 kind, .int .i64 id, .int .u8 (fill.toNat : Int), .bool bad]] wz (Stepped8 U' G wz c dp D) from fun wz hz => by
        have hh := step08_any (HP.out.prog.below hz) (HP.out.ref.below HP.out.held hz) (HP.out.held.more hz.size) HP.out.apart HP.out.fit (by omega) A (fun wx hx => HS.out.below ((below_step HP.out.below hz).trans (hx.below HUL.out (by have := hz.size; omega)))) kind id fill bad HD.out
        unfold refCV at hh
        exact hh)
      go_upto_region 8 with fail
      have q0 := Far.dcell8 (w := wr) (F := U') x0 htU
      have q1 := Far.dcell8 (w := wr) (F := U') x1 htU
      have q2 := Far.dcell8 (w := wr) (F := U') x2 htU
      have q3 := Far.dcell8 (w := wr) (F := U') x3 htU
      have q4 := Far.dcell8 (w := wr) (F := U') x4 htU
      have q5 := Far.dcell8 (w := wr) (F := U') x5 htU
      have q6 := Far.dcell8 (w := wr) (F := U') x6 htU
      have q7 := Far.dcell8 (w := wr) (F := U') x7 htU
      have q8 := Far.dcell8 (w := wr) (F := U') x8 htU
      have q9 := Far.dcell8 (w := wr) (F := U') x9 htU
      have q10 := Far.dcell8 (w := wr) (F := U') x10 htU
      have q11 := Far.dcell8 (w := wr) (F := U') x11 htU
      have q12 := Far.dcell8 (w := wr) (F := U') x12 htU
      have d0 := Far.dcell8 (w := wr) (F := U') c0 hbU
      have d1 := Far.dcell8 (w := wr) (F := U') c1 hbU
      have d2 := Far.dcell8 (w := wr) (F := U') c2 hbU
      have d3 := Far.dcell8 (w := wr) (F := U') c3 hbU
      refine wp_region_mix (fun w' => ∃ x : Far wr.drew U', w' = x.world) [10] 11 (by kernel_rfl) rfl ?_
      refine mix_reads_lit [0, 1, 2, 3, 4, 5] 5 (by kernel_rfl) (by kernel_rfl) (by kernel_rfl) (by kernel_rfl) rfl (FarC.of (Beside.refl _ _)) ?_
      simp only [pick, List.filterMap_cons, List.filterMap_nil, List.getElem?_cons_succ, List.getElem?_cons_zero]
      repeat (first | go_big_quiet_step (fail) | quiet_step (fail))
      refine wpQuiet_nil ?_
      clear q0 q1 q2 q3 q4 q5 q6 q7 q8 q9 q10 q11 q12 x0 x1 x2 x3 x4 x5 x6 x7 x8 x9 x10 x11 x12 d0 d1 d2 d3 c0 c1 c2 c3
      refine mix_deed_lit 6 4 (by kernel_rfl) (by kernel_rfl) rfl (fun K hK => ?_)
      simp only [comesUp, List.getElem?_cons_succ, List.getElem?_cons_zero]
      refine if_mk rfl ?_
      go_simp
      refine (HSTEP.out wr.drew (Below.refl _ _).drew).mono ?_
      rintro e w6 ⟨U1, G1, ⟨sa6, sc6, la6, lc6, wa6, wq6, ka6, kc6⟩, rg6, rc6, rfl, hC6, hR6, hB6, hgU6, hgG6, hd6⟩
      refine hK _ _ (fun _ _ => FarC.of hB6) ?_
      clear hK K
      have HX := Lib.hid (show CIn U1 w6 c dp rg6 rc6 D ∧ RefC G1 w6 D ⟨sa6, sc6, la6, lc6, wa6, wq6, ka6, kc6⟩ ∧ Beside U' wr w6 ∧ Grows U' wr U1 w6 ∧ Grows G wr G1 w6 ∧ ∀ k, G1 k → ¬ U1 k from ⟨hC6, hR6, ⟨hB6.os, hB6.tape, hB6.output, hB6.size, hB6.block⟩, hgU6, hgG6, hd6⟩)
      clear hC6 hR6 hgU6 hgG6 hd6
      unfold refCV
      refine mix_reads_lit [7, 8, 9] 1 (by kernel_rfl) (by kernel_rfl) (by kernel_rfl) (by kernel_rfl) rfl (FarC.of hB6) ?_
      simp only [pick, List.filterMap_cons, List.filterMap_nil, List.getElem?_cons_succ, List.getElem?_cons_zero]
      repeat (first | go_big_quiet_step (fail) | quiet_step (fail))
      refine wpQuiet_nil ?_
      clear hB6
      have HT := Lib.hid (HP.out.box.beside HX.out.2.2.1 htU)
      obtain ⟨y0, y1, y2, y3, y4, y5, y6, y7, y8, y9, y10, y11, y12⟩ := (show BoxAt w6 tb [.slice sa C.slots.length sc, .int .i64 (C.hand : Int), .int .i64 (C.disk.blocks : Int), .int .i64 (C.disk.size : Int), .slice la C.disk.lasting.length lc, .slice wa C.disk.waiting.length wq, .bool C.disk.lit, .int .i64 C.disk.after, .int .i64 C.disk.torn, .int .i64 C.disk.cut, .slice ka C.disk.keep.length kc, .bool C.disk.off, .int .i64 C.disk.count] from HT.out).thirteen
      obtain ⟨f0, f1, f2, f3, f4, f5, f6, f7, f8, f9, f10, f11, f12⟩ := (show BoxAt w6 tb [.slice sa C.slots.length sc, .int .i64 (C.hand : Int), .int .i64 (C.disk.blocks : Int), .int .i64 (C.disk.size : Int), .slice la C.disk.lasting.length lc, .slice wa C.disk.waiting.length wq, .bool C.disk.lit, .int .i64 C.disk.after, .int .i64 C.disk.torn, .int .i64 C.disk.cut, .slice ka C.disk.keep.length kc, .bool C.disk.off, .int .i64 C.disk.count] from HT.out).thirteenF
      refine mix_deed_lit 10 0 (by kernel_rfl) (by kernel_rfl) rfl (fun K hK => ?_)
      simp only [comesUp, List.getElem?_cons_succ, List.getElem?_cons_zero]
      refine if_mk rfl ?_
      go_simp
      refine hK _ _ (fun h => by simp [keeps] at h) ?_
      clear hK K y0 y1 y2 y3 y4 y5 y6 y7 y8 y9 y10 y11 y12 f0 f1 f2 f3 f4 f5 f6 f7 f8 f9 f10 f11 f12
      obtain ⟨Z0, hZ0, hf, hgz⟩ := (show BoxAt w6 tb [.slice sa C.slots.length sc, .int .i64 (C.hand : Int), .int .i64 (C.disk.blocks : Int), .int .i64 (C.disk.size : Int), .slice la C.disk.lasting.length lc, .slice wa C.disk.waiting.length wq, .bool C.disk.lit, .int .i64 C.disk.after, .int .i64 C.disk.torn, .int .i64 C.disk.cut, .slice ka C.disk.keep.length kc, .bool C.disk.off, .int .i64 C.disk.count] from HT.out).fill13s (.slice sa6 D.slots.length sc6) (.int .i64 (D.hand : Int)) (.int .i64 (D.disk.blocks : Int)) (.int .i64 (D.disk.size : Int)) (.slice la6 D.disk.lasting.length lc6) (.slice wa6 D.disk.waiting.length wq6) (.bool D.disk.lit) (.int .i64 D.disk.after) (.int .i64 D.disk.torn) (.int .i64 D.disk.cut) (.slice ka6 D.disk.keep.length kc6) (.bool D.disk.off) (.int .i64 D.disk.count)
      rw [← hZ0]
      clear hZ0
      refine mix_done_lit (by kernel_rfl) ?_
      have htbl : tb < wr.heap.size := HP.out.box.lt
      have HPV := Lib.hid (show PlayC w Z0 c dp tb (6 + 6 * (k + 1)) sl D U1 G1 ⟨sa6, sc6, la6, lc6, wa6, wq6, ka6, kc6⟩ rg6 rc6 from by
        obtain ⟨g1, g2, g3, g4, g5, g6⟩ := HX.out
        have hs2 := g3.size
        have hsz := hgz.size
        have hUtb : ¬ U1 tb := fun h => by
          rcases (g4 _ h).1 with q | q
          · exact htU q
          · omega
        have hGtb : ¬ G1 tb := fun h => by
          rcases (g5 _ h).1 with q | q
          · exact HP.out.out.2 q
          · omega
        exact ⟨HFD.out, g1.keep hgz hUtb, g2.on fun q hq => hgz.block q (g5 q hq).2 (by intro e; have e2 := Option.some.inj e; exact hGtb (by first | (rw [e2]; exact hq) | (rw [← e2]; exact hq))), hf, fun q hq => by have := (g5 q hq).2; omega, g6, ⟨hUtb, hGtb⟩, fun q hq => by
          rcases (g4 q hq).1 with h | h
          · exact HUL.out q h
          · omega, HP.out.tbl, (HP.out.below.trans (g3.below HUL.out hwr)).trans (below_of_grown hgz HP.out.tbl (by omega))⟩)
      clear hf hgz HX HT
      go_wp2_with fail
      go_roundw
      case rel => exact ⟨k + 1, D, U1, G1, ⟨sa6, sc6, la6, lc6, wa6, wq6, ka6, kc6⟩, rg6, rc6, by omega, by omega, by go_num, HPV.out⟩
      case measure => simp [intOf]; omega
    · by_cases hlt : k < l.length
      · have hlt1 : (k : Int) < (l.length : Int) := by omega
        have h601 : ¬ (k : Int) < 60 := by omega
        clear hcont
        obtain ⟨F, hd1, hd2, hd3, hd4⟩ := HP.out.prog.disks
        obtain ⟨E, hE⟩ : ∃ E, Bk.on C.disk = E := ⟨_, rfl⟩
        have HON := Lib.hid (on_to hd1 hE)
        have HD4 := Lib.hid hd4
        have HD3 := Lib.hid hd3
        have HE := Lib.hid hE
        clear hd1 hd2 hd3 hd4 hE
        go_upto_region 10 with (first
          | (go_at_call 10; (refine HON.out.mono ?_); (rintro e w2 ⟨⟨v2, rfl⟩, hdk, hbf⟩); (obtain ⟨hC2, hB2⟩ := HD4.out F w2 E hdk hbf (fun k hk => ⟨.inl hk, Nat.lt_of_lt_of_le (HD3.out k hk) hbf.size⟩)); (have HC2 := Lib.hid hC2); (have HB2 := Lib.hid hB2); (clear hC2 hB2 hdk hbf))
          | (go_at_call 9; (refine (cdisk_is HP.out.prog.box).mono ?_); (rintro e w1 ⟨rfl, rfl⟩)))
        have htU : ¬ U' tb := HP.out.out.1
        have htG : ¬ G tb := HP.out.out.2
        have htbl : tb < wr.heap.size := HP.out.box.lt
        have hUL := HP.out.low
        have HUL := Lib.hid hUL
        have htl := HP.out.tbl
        have hwr := HP.out.below.size
        have hs2 := HB2.out.size
        have HX2 := Lib.hid (HP.out.box.beside HB2.out htU)
        have HGW := Lib.hid (show ∀ k, G k → w2.heap[k]? = wr.heap[k]? from fun k hk => HB2.out.block k (HP.out.held k hk) (HP.out.apart k hk))
        have HHG := Lib.hid (show Held G w2 from fun k hk => Nat.lt_of_lt_of_le (HP.out.held k hk) hs2)
        have HR2 := Lib.hid (HP.out.ref.on HGW.out)
        have HONR := Lib.hid (show Calls Tryz.prog 11 #[.agg #[.int .i64 (C.disk.blocks : Int), .int .i64 (C.disk.size : Int), .slice la C.disk.lasting.length lc, .slice wa C.disk.waiting.length wq, .bool C.disk.lit, .int .i64 C.disk.after, .int .i64 C.disk.torn, .int .i64 C.disk.cut, .slice ka C.disk.keep.length kc, .bool C.disk.off, .int .i64 C.disk.count]] w2 fun e w' => GivesR G w2 E e w' ∧ Below w2.heap.size w2 w' from refOn8 HR2.out.diskAt HHG.out HE.out)
        clear hUL
        obtain ⟨x0, x1, x2, x3, x4, x5, x6, x7, x8, x9, x10, x11, x12⟩ := (show BoxAt w2 tb [.slice sa C.slots.length sc, .int .i64 (C.hand : Int), .int .i64 (C.disk.blocks : Int), .int .i64 (C.disk.size : Int), .slice la C.disk.lasting.length lc, .slice wa C.disk.waiting.length wq, .bool C.disk.lit, .int .i64 C.disk.after, .int .i64 C.disk.torn, .int .i64 C.disk.cut, .slice ka C.disk.keep.length kc, .bool C.disk.off, .int .i64 C.disk.count] from HX2.out).thirteen
        go_upto_region 11 with (go_at_call 11; (refine HONR.out.mono ?_); (rintro e w3 ⟨⟨v3, rfl, hr3⟩, hb3⟩); (obtain ⟨la2, lc2, wa2, wq2, ka2, kc2, rfl, h3⟩ := HR2.out.newDisk (fun k hk => hb3.block k (HHG.out k hk)) (fun k hk => .inl hk) hr3); (have H3 := Lib.hid (show RefC (More G w2 w3) w3 { C with disk := E } ⟨sa, sc, la2, lc2, wa2, wq2, ka2, kc2⟩ from h3)); (have HB3 := Lib.hid hb3); (obtain ⟨y0, y1, y2, y3, y4, y5, y6, y7, y8, y9, y10, y11, y12⟩ := (show BoxAt w3 tb [.slice sa C.slots.length sc, .int .i64 (C.hand : Int), .int .i64 (C.disk.blocks : Int), .int .i64 (C.disk.size : Int), .slice la C.disk.lasting.length lc, .slice wa C.disk.waiting.length wq, .bool C.disk.lit, .int .i64 C.disk.after, .int .i64 C.disk.torn, .int .i64 C.disk.cut, .slice ka C.disk.keep.length kc, .bool C.disk.off, .int .i64 C.disk.count] from HX2.out.below hb3).thirteen); (obtain ⟨f0, f1, f2, f3, f4, f5, f6, f7, f8, f9, f10, f11, f12⟩ := (show BoxAt w3 tb [.slice sa C.slots.length sc, .int .i64 (C.hand : Int), .int .i64 (C.disk.blocks : Int), .int .i64 (C.disk.size : Int), .slice la C.disk.lasting.length lc, .slice wa C.disk.waiting.length wq, .bool C.disk.lit, .int .i64 C.disk.after, .int .i64 C.disk.torn, .int .i64 C.disk.cut, .slice ka C.disk.keep.length kc, .bool C.disk.off, .int .i64 C.disk.count] from HX2.out.below hb3).thirteenF); (clear hr3 h3 hb3); (unfold refD))
        refine wp_name fun V hV => ?_
        obtain ⟨Z0, hZ0, hxx, hgg⟩ := BoxAt.fill11s (show BoxAt w3 tb [.slice sa C.slots.length sc, .int .i64 (C.hand : Int), .int .i64 (C.disk.blocks : Int), .int .i64 (C.disk.size : Int), .slice la C.disk.lasting.length lc, .slice wa C.disk.waiting.length wq, .bool C.disk.lit, .int .i64 C.disk.after, .int .i64 C.disk.torn, .int .i64 C.disk.cut, .slice ka C.disk.keep.length kc, .bool C.disk.off, .int .i64 C.disk.count] from HX2.out.below HB3.out) (.int .i64 (E.blocks : Int)) (.int .i64 (E.size : Int)) (.slice la2 E.lasting.length lc2) (.slice wa2 E.waiting.length wq2) (.bool E.lit) (.int .i64 E.after) (.int .i64 E.torn) (.int .i64 E.cut) (.slice ka2 E.keep.length kc2) (.bool E.off) (.int .i64 E.count)
        rw [← hZ0] at hV
        clear hZ0
        subst hV
        obtain ⟨D0, hDD⟩ : ∃ D0, ({ C with disk := E } : Ch.Cache) = D0 := ⟨_, rfl⟩
        have hon0 : D0.disk.off = false ∧ D0.disk.lit = false := by rw [← hDD, ← HE.out]; exact ⟨rfl, rfl⟩
        have HPV := Lib.hid (show PlayC w V c dp tb (6 + 6 * k) sl D0 (More U' wr w2) (More G w2 w3) ⟨sa, sc, la2, lc2, wa2, wq2, ka2, kc2⟩ rg' rc' from by
          have hs3 := HB3.out.size
          have hsg := hgg.size
          have hUtb : ¬ More U' wr w2 tb := fun h => by
            rcases h with h | h
            · exact htU h
            · omega
          have hGtb : ¬ More G w2 w3 tb := fun h => by
            rcases h with h | h
            · exact htG h
            · omega
          have hXm : ∀ q, More G w2 w3 q → q < w3.heap.size := fun q hq => hq.elim (fun h => by have := HHG.out q h; omega) fun h => h.2
          rw [← hDD]
          refine ⟨by rw [← HE.out]; exact HP.out.fit.on, (HC2.out.below HB3.out).keep hgg hUtb, H3.out.on fun q hq => hgg.block q (hXm q hq) (by intro e; have e2 := Option.some.inj e; exact hGtb (by first | (rw [e2]; exact hq) | (rw [← e2]; exact hq))), hxx, fun q hq => by have := hXm q hq; omega, fun q hq hqu => ?_, ⟨hUtb, hGtb⟩, fun q hq => hq.elim (HUL.out q) fun h => by omega, htl, (HP.out.below.trans (HB2.out.below HUL.out hwr)).trans ((HB3.out.mono (by omega)).trans (below_of_grown hgg htl (by omega)))⟩
          rcases hq with hq | hq
          · rcases hqu with hqu | hqu
            · exact HP.out.apart q hq hqu
            · have := HP.out.held q hq; omega
          · rcases hqu with hqu | hqu
            · have := HP.out.prog.held q hqu; omega
            · omega)
        clear hxx hgg hDD HP HON HD4 HD3 HC2 HB2 HX2 HGW HHG HR2 HONR HUL htU htG htbl hs2 x0 x1 x2 x3 x4 x5 x6 x7 x8 x9 x10 x11 x12 y0 y1 y2 y3 y4 y5 y6 y7 y8 y9 y10 y11 y12 f0 f1 f2 f3 f4 f5 f6 f7 f8 f9 f10 f11 f12
        obtain ⟨X, hX, hXf, hXo⟩ := Ch.flush_on HPV.out.fit hon0
        have HX := Lib.hid hX
        have HXF := Lib.hid hXf
        have HXO := Lib.hid hXo
        clear hX hXf hXo hon0
        generalize hU2 : More U' wr w2 = U2 at HPV
        generalize hG2 : More G w2 w3 = G2 at HPV
        clear hU2 hG2
        have HFL := Lib.hid (show Calls Tryz.prog 12 #[.agg #[.slice sa D0.slots.length sc, .int .i64 (D0.hand : Int), .int .i64 (D0.disk.blocks : Int), .int .i64 (D0.disk.size : Int), .slice la2 D0.disk.lasting.length lc2, .slice wa2 D0.disk.waiting.length wq2, .bool D0.disk.lit, .int .i64 D0.disk.after, .int .i64 D0.disk.torn, .int .i64 D0.disk.cut, .slice ka2 D0.disk.keep.length kc2, .bool D0.disk.off, .int .i64 D0.disk.count]] V (GivesCK G2 V X 0) from by
          have hh := refCflush_is HPV.out.ref HPV.out.held HPV.out.fit.ok (by omega) HX.out
          unfold refCV at hh
          exact hh)
        obtain ⟨x0, x1, x2, x3, x4, x5, x6, x7, x8, x9, x10, x11, x12⟩ := (show BoxAt V tb [.slice sa D0.slots.length sc, .int .i64 (D0.hand : Int), .int .i64 (D0.disk.blocks : Int), .int .i64 (D0.disk.size : Int), .slice la2 D0.disk.lasting.length lc2, .slice wa2 D0.disk.waiting.length wq2, .bool D0.disk.lit, .int .i64 D0.disk.after, .int .i64 D0.disk.torn, .int .i64 D0.disk.cut, .slice ka2 D0.disk.keep.length kc2, .bool D0.disk.off, .int .i64 D0.disk.count] from HPV.out.box).thirteen
        go_upto_region 12 with (go_at_call 12; (refine HFL.out.mono ?_); (rintro e w4 ⟨⟨⟨sa7, sc7, la7, lc7, wa7, wq7, ka7, kc7⟩, rfl, h4⟩, hb4⟩); (have H4 := Lib.hid h4); (have HB4 := Lib.hid hb4); (clear h4 hb4); (unfold refCV))
        obtain ⟨xb, hxb⟩ : ∃ xb, w4.heap.size = xb := ⟨_, rfl⟩
        refine wp_name fun V4 hV => ?_
        have hv : BoxAt V4 xb [.slice sa7 X.slots.length sc7, .int .i64 (X.hand : Int), .int .i64 (X.disk.blocks : Int), .int .i64 (X.disk.size : Int), .slice la7 X.disk.lasting.length lc7, .slice wa7 X.disk.waiting.length wq7, .bool X.disk.lit, .int .i64 X.disk.after, .int .i64 X.disk.torn, .int .i64 X.disk.cut, .slice ka7 X.disk.keep.length kc7, .bool X.disk.off, .int .i64 X.disk.count] ∧ Below w4.heap.size w4 V4 := by
          rw [hV]
          exact ⟨BoxAt.newAt _ _ hxb [_, _, _, _, _, _, _, _, _, _, _, _, _] _, by go_grown⟩
        have HXB := Lib.hid hv.1
        have HBV4 := Lib.hid hv.2
        have hxe : w4.heap.size ≤ xb := Nat.le_of_eq hxb
        clear hV hv HFL x0 x1 x2 x3 x4 x5 x6 x7 x8 x9 x10 x11 x12
        rw [hxb]
        clear hxb
        have hs4 := HB4.out.size
        have hsV4 := HBV4.out.size
        have HBVV := Lib.hid (below_step HB4.out HBV4.out)
        have HPV4 := Lib.hid (HPV.out.later HBVV.out)
        have hUV := HPV.out.prog.held
        have hGV := HPV.out.held
        have htV : tb < V.heap.size := HPV.out.box.lt
        have HR4 := Lib.hid (show RefC (More G2 V w4) V4 X ⟨sa7, sc7, la7, lc7, wa7, wq7, ka7, kc7⟩ from H4.out.on fun q hq => HBV4.out.block q (hq.elim (fun h => by have := hGV q h; omega) fun h => h.2))
        have hxU : ¬ U2 xb := fun h => by have := hUV _ h; omega
        have hmeet : ∀ wx, Beside U2 V4.drew wx → Sents wx A := fun wx hx => HS.out.below (HPV4.out.below.trans (Beside.below (w := V4) ⟨hx.os, hx.tape, hx.output, hx.size, hx.block⟩ HPV4.out.low HPV4.out.below.size))
        have HMEET := Lib.hid hmeet
        clear hmeet
        have HUV := Lib.hid hUV
        have HGV := Lib.hid hGV
        clear hUV hGV
        have x5 := Far.dcell8 (w := V4) (F := U2) (show V4.cell? ⟨xb, 5, none⟩ = some (.slice wa7 X.disk.waiting.length wq7) from HXB.out.at 5 _ rfl) hxU
        refine wp_region_mix (fun w' => ∃ x : Far V4.drew U2, w' = x.world) [] 13 (by kernel_rfl) rfl ?_
        refine mix_reads_lit [0] 12 (by kernel_rfl) (by kernel_rfl) (by kernel_rfl) (by kernel_rfl) rfl (FarC.of (Beside.refl _ _)) ?_
        simp only [pick, List.filterMap_cons, List.filterMap_nil, List.getElem?_cons_succ, List.getElem?_cons_zero]
        repeat (first | go_big_quiet_step (fail) | quiet_step (fail))
        refine wpQuiet_nil ?_
        refine mix_deed_lit 1 11 (by kernel_rfl) (by kernel_rfl) rfl (fun K hK => ?_)
        simp only [comesUp, List.getElem?_cons_succ, List.getElem?_cons_zero]
        refine if_mk rfl ?_
        go_simp
        refine (cflush_is (HPV4.out.prog.below (Below.refl _ _).drew) HPV4.out.fit.ok (by omega) HX.out A HMEET.out).mono ?_
        rintro e w5 ⟨l5, v5, rfl, hE5, hC5, hB5⟩
        obtain ⟨rfl, rfl⟩ := hE5.isNil
        refine hK _ _ (fun _ _ => FarC.of hB5) ?_
        clear hK K hE5
        have HC5 := Lib.hid (show CIn (More U2 V4 w5) w5 c dp rg' rc' X from hC5)
        have HB5 := Lib.hid (show Beside U2 V4 w5 from ⟨hB5.os, hB5.tape, hB5.output, hB5.size, hB5.block⟩)
        refine mix_deed_lit 2 10 (by kernel_rfl) (by kernel_rfl) rfl (fun K hK => ?_)
        simp only [comesUp, List.getElem?_cons_succ, List.getElem?_cons_zero]
        refine if_mk rfl ?_
        go_simp
        refine hK _ _ (fun _ h => h) ?_
        clear hK K
        refine mix_reads_lit [3, 4] 8 (by kernel_rfl) (by kernel_rfl) (by kernel_rfl) (by kernel_rfl) rfl (FarC.of hB5) ?_
        simp only [pick, List.filterMap_cons, List.filterMap_nil, List.getElem?_cons_succ, List.getElem?_cons_zero]
        repeat (first | go_big_quiet_step (fail) | quiet_step (fail))
        refine wpQuiet_nil ?_
        refine mix_reads_lit [7, 8, 9, 10] 4 (by kernel_rfl) (by kernel_rfl) (by kernel_rfl) (by kernel_rfl) rfl (FarC.of hB5) ?_
        simp only [pick, List.filterMap_cons, List.filterMap_nil, List.getElem?_cons_succ, List.getElem?_cons_zero]
        repeat (first | go_big_quiet_step (fail) | quiet_step (fail))
        refine wpQuiet_nil ?_
        clear x5
        refine mix_deed_lit 5 3 (by kernel_rfl) (by kernel_rfl) rfl (fun K hK => ?_)
        simp only [comesUp, List.getElem?_cons_succ, List.getElem?_cons_zero]
        refine if_mk rfl ?_
        go_simp
        refine (cdisk_is HC5.out.box).mono ?_
        rintro e w5' ⟨rfl, rfl⟩
        refine hK _ _ (fun _ h => h) ?_
        clear hK K
        obtain ⟨F5, hk1, hk2, hk3, hk4⟩ := HC5.out.disks
        refine mix_deed_lit 6 2 (by kernel_rfl) (by kernel_rfl) rfl (fun K hK => ?_)
        simp only [comesUp, List.getElem?_cons_succ, List.getElem?_cons_zero]
        refine if_mk rfl ?_
        go_simp
        refine (waiting_is hk1).mono ?_
        rintro e w5' ⟨rfl, rfl⟩
        refine hK _ _ (fun _ h => h) ?_
        clear hK K hk1 hk2 hk3 hk4
        refine mix_reads_lit [11, 12] 0 (by kernel_rfl) (by kernel_rfl) (by kernel_rfl) (by kernel_rfl) rfl (FarC.of hB5) ?_
        simp only [pick, List.filterMap_cons, List.filterMap_nil, List.getElem?_cons_succ, List.getElem?_cons_zero]
        repeat (first | go_big_quiet_step (fail) | quiet_step (fail))
        refine wpQuiet_nil ?_
        clear hB5
        refine mix_done_lit (by kernel_rfl) ?_
        have htU2 : ¬ U2 tb := HPV4.out.out.1
        have htG2 : ¬ G2 tb := HPV4.out.out.2
        have hs5 := HB5.out.size
        have HT5 := Lib.hid (HPV4.out.box.beside HB5.out htU2)
        have HX5 := Lib.hid (HXB.out.beside HB5.out hxU)
        have HR5 := Lib.hid (show RefC (More G2 V w4) w5 X ⟨sa7, sc7, la7, lc7, wa7, wq7, ka7, kc7⟩ from HR4.out.on fun q hq => HB5.out.block q (hq.elim (fun h => by have := HGV.out q h; omega) fun h => by omega) (fun hu => hq.elim (fun h => HPV4.out.apart q h hu) fun h => by have := HUV.out q hu; omega))
        obtain ⟨z0, z1, z2, z3, z4, z5, z6, z7, z8, z9, z10, z11, z12⟩ := (show BoxAt w5 xb [.slice sa7 X.slots.length sc7, .int .i64 (X.hand : Int), .int .i64 (X.disk.blocks : Int), .int .i64 (X.disk.size : Int), .slice la7 X.disk.lasting.length lc7, .slice wa7 X.disk.waiting.length wq7, .bool X.disk.lit, .int .i64 X.disk.after, .int .i64 X.disk.torn, .int .i64 X.disk.cut, .slice ka7 X.disk.keep.length kc7, .bool X.disk.off, .int .i64 X.disk.count] from HX5.out).thirteen
        have ht5 : BoxAt w5 tb [.slice sa D0.slots.length sc, .int .i64 (D0.hand : Int), .int .i64 (D0.disk.blocks : Int), .int .i64 (D0.disk.size : Int), .slice la2 D0.disk.lasting.length lc2, .slice wa2 D0.disk.waiting.length wq2, .bool D0.disk.lit, .int .i64 D0.disk.after, .int .i64 D0.disk.torn, .int .i64 D0.disk.cut, .slice ka2 D0.disk.keep.length kc2, .bool D0.disk.off, .int .i64 D0.disk.count] := HT5.out
        obtain ⟨y0, y1, y2, y3, y4, y5, y6, y7, y8, y9, y10, y11, y12⟩ := ht5.thirteen
        obtain ⟨f0, f1, f2, f3, f4, f5, f6, f7, f8, f9, f10, f11, f12⟩ := ht5.thirteenF
        go_upto_region 15 with fail
        refine wp_name fun V7 hV => ?_
        obtain ⟨Z7, hZ7, hf7, hg7⟩ := ht5.fill13s (.slice sa7 X.slots.length sc7) (.int .i64 (X.hand : Int)) (.int .i64 (X.disk.blocks : Int)) (.int .i64 (X.disk.size : Int)) (.slice la7 X.disk.lasting.length lc7) (.slice wa7 X.disk.waiting.length wq7) (.bool X.disk.lit) (.int .i64 X.disk.after) (.int .i64 X.disk.torn) (.int .i64 X.disk.cut) (.slice ka7 X.disk.keep.length kc7) (.bool X.disk.off) (.int .i64 X.disk.count)
        rw [← hZ7] at hV
        clear hZ7
        subst hV
        have HP7 := Lib.hid (show PlayC w V7 c dp tb (6 + 6 * k + sl) sl X (More U2 V4 w5) (More G2 V w4) ⟨sa7, sc7, la7, lc7, wa7, wq7, ka7, kc7⟩ rg' rc' from by
          have hs7 := hg7.size
          have hUtb : ¬ More U2 V4 w5 tb := fun h => by
            rcases h with h | h
            · exact htU2 h
            · omega
          have hGtb : ¬ More G2 V w4 tb := fun h => by
            rcases h with h | h
            · exact htG2 h
            · omega
          have hXm : ∀ q, More G2 V w4 q → q < w5.heap.size := fun q hq => hq.elim (fun h => by have := HGV.out q h; omega) fun h => by omega
          refine ⟨HXF.out, HC5.out.keep hg7 hUtb, HR5.out.on fun q hq => hg7.block q (hXm q hq) (by intro e; have e2 := Option.some.inj e; exact hGtb (by first | (rw [e2]; exact hq) | (rw [← e2]; exact hq))), hf7, fun q hq => by have := hXm q hq; omega, fun q hq hqu => ?_, ⟨hUtb, hGtb⟩, fun q hq => hq.elim (HPV4.out.low q) fun h => by have := HPV4.out.below.size; omega, htl, (HPV4.out.below.trans (HB5.out.below HPV4.out.low HPV4.out.below.size)).trans (below_of_grown hg7 htl (by have := HPV4.out.below.size; omega))⟩
          rcases hq with hq | hq
          · rcases hqu with hqu | hqu
            · exact HPV4.out.apart q hq hqu
            · have := HGV.out q hq; omega
          · rcases hqu with hqu | hqu
            · have := HUV.out q hqu; omega
            · omega)
        clear ht5 hf7 hg7 htU2 htG2 HT5 HX5 HR5 HC5 HB5 HR4 HPV4 HBVV HBV4 HB4 H4 HPV HXB HMEET HUV HGV hs4 hsV4 hs5 hxU htV hxe z0 z1 z2 z3 z4 z5 z6 z7 z8 z9 z10 z11 z12 y0 y1 y2 y3 y4 y5 y6 y7 y8 y9 y10 y11 y12 f0 f1 f2 f3 f4 f5 f6 f7 f8 f9 f10 f11 f12
        generalize hU3 : More U2 V4 w5 = U3 at HP7
        generalize hG3 : More G2 V w4 = G3 at HP7
        clear hU3 hG3
        go_wp2_with fail
        go_loopw [11] (fun i wx => ∃ j : Nat, j ≤ 12 ∧ i = .int .i64 (j : Int) ∧ Below V7.heap.size V7 wx) (fun i _ => 12 - (intOf i).toNat)
        case atStart => exact ⟨0, by omega, rfl, Below.refl _ _⟩
        case round =>
          obtain ⟨j, hj, rfl, hbj⟩ := hrel
          have HP8 := Lib.hid (HP7.out.later hbj)
          have HBJ := Lib.hid hbj
          clear hbj
          by_cases hj12 : j < 12
          · have hj1 : (j : Int) < 12 := by omega
            obtain ⟨L, hL⟩ : ∃ L, Bk.read X.disk j = L := ⟨_, rfl⟩
            have HLL := Lib.hid hL
            have hin : Bk.In X.disk (j : Int) := by unfold Bk.In; rw [HP8.out.fit.geo.1]; omega
            have HIN := Lib.hid hin
            obtain ⟨F8, hk1, hk2, hk3, hk4⟩ := HP8.out.prog.disks
            have HRD := Lib.hid (read_to hk1 HP8.out.fit.ok.disk (j : Int) hin HXO.out L (by rw [Int.toNat_natCast]; exact hL))
            clear hk1 hk2 hk3 hk4 hL hin
            go_upto_region 19 with (first
              | (go_at_call 15; (refine HRD.out.mono ?_); (rintro e w9 ⟨⟨g9, rfl, ho9⟩, hb9⟩); (have HO9 := Lib.hid ho9); (have HB9 := Lib.hid hb9); (clear ho9 hb9))
              | (go_at_call 9; (refine (cdisk_is HP8.out.prog.box).mono ?_); (rintro e w1 ⟨rfl, rfl⟩)))
            have HP9 := Lib.hid (HP8.out.later HB9.out)
            have HREF := Lib.hid (show Calls Tryz.prog 17 #[.agg #[.int .i64 (X.disk.blocks : Int), .int .i64 (X.disk.size : Int), .slice la7 X.disk.lasting.length lc7, .slice wa7 X.disk.waiting.length wq7, .bool X.disk.lit, .int .i64 X.disk.after, .int .i64 X.disk.torn, .int .i64 X.disk.cut, .slice ka7 X.disk.keep.length kc7, .bool X.disk.off, .int .i64 X.disk.count], .int .i64 (j : Int)] w9 fun e w' => GivesG G3 L e w' ∧ Below w9.heap.size w9 w' from refRead4_ok HP9.out.ref.diskAt HP9.out.fit.ok.disk j (by rw [HP9.out.fit.geo.1]; exact hj12) L HLL.out)
            obtain ⟨x0, x1, x2, x3, x4, x5, x6, x7, x8, x9, x10, x11, x12⟩ := (show BoxAt w9 tb [.slice sa7 X.slots.length sc7, .int .i64 (X.hand : Int), .int .i64 (X.disk.blocks : Int), .int .i64 (X.disk.size : Int), .slice la7 X.disk.lasting.length lc7, .slice wa7 X.disk.waiting.length wq7, .bool X.disk.lit, .int .i64 X.disk.after, .int .i64 X.disk.torn, .int .i64 X.disk.cut, .slice ka7 X.disk.keep.length kc7, .bool X.disk.off, .int .i64 X.disk.count] from HP9.out.box).thirteen
            have hbe : (L == L) = true := by simp
            have HSB := Lib.hid (show ∀ (wz : World) (s1 s2 : Value), BytesAt wz s1 L → BytesAt wz s2 L → Calls Tryz.prog 16 #[s1, s2] wz fun e w' => e = .returned (.bool true) ∧ Below wz.heap.size wz w' from fun wz s1 s2 h1 h2 => by
              have hh := same_any s1 s2 L L wz h1 h2
              rw [hbe] at hh
              exact hh)
            clear hbe
            go_wp2_with (first
              | (go_at_call 16; (refine (HSB.out _ _ _ (HO9.out.bytes.below HB10.out) HY10.out).mono ?_); (rintro e w11 ⟨rfl, hb11⟩); (have HB11 := Lib.hid hb11); (clear hb11))
              | (go_at_call 17; (refine HREF.out.mono ?_); (rintro e w10 ⟨⟨a10, c10, rfl, hby10, hg10⟩, hb10⟩); (have HY10 := Lib.hid hby10); (have HB10 := Lib.hid hb10); (clear hby10 hg10 hb10)))
            go_roundw
            case rel => exact ⟨j + 1, by omega, by go_num, below_step HBJ.out (below_step HB9.out (below_step HB10.out HB11.out))⟩
            case measure => simp [intOf]; omega
          · obtain rfl : j = 12 := by omega
            go_wp2_with (go_at_call 18; (refine (awake08_any _ A (HS.out.below HP8.out.below)).mono ?_); (rintro e w9 ⟨rfl, hb9⟩); (have HB9 := Lib.hid hb9); (clear hb9))
            go_ret
            exact ⟨rfl, below_step HP8.out.below HB9.out⟩
      · have hlt1 : ¬ (k : Int) < (l.length : Int) := by omega
        clear hcont
        obtain ⟨F, hd1, hd2, hd3, hd4⟩ := HP.out.prog.disks
        obtain ⟨E, hE⟩ : ∃ E, Bk.on C.disk = E := ⟨_, rfl⟩
        have HON := Lib.hid (on_to hd1 hE)
        have HD4 := Lib.hid hd4
        have HD3 := Lib.hid hd3
        have HE := Lib.hid hE
        clear hd1 hd2 hd3 hd4 hE
        go_upto_region 10 with (first
          | (go_at_call 10; (refine HON.out.mono ?_); (rintro e w2 ⟨⟨v2, rfl⟩, hdk, hbf⟩); (obtain ⟨hC2, hB2⟩ := HD4.out F w2 E hdk hbf (fun k hk => ⟨.inl hk, Nat.lt_of_lt_of_le (HD3.out k hk) hbf.size⟩)); (have HC2 := Lib.hid hC2); (have HB2 := Lib.hid hB2); (clear hC2 hB2 hdk hbf))
          | (go_at_call 9; (refine (cdisk_is HP.out.prog.box).mono ?_); (rintro e w1 ⟨rfl, rfl⟩)))
        have htU : ¬ U' tb := HP.out.out.1
        have htG : ¬ G tb := HP.out.out.2
        have htbl : tb < wr.heap.size := HP.out.box.lt
        have hUL := HP.out.low
        have HUL := Lib.hid hUL
        have htl := HP.out.tbl
        have hwr := HP.out.below.size
        have hs2 := HB2.out.size
        have HX2 := Lib.hid (HP.out.box.beside HB2.out htU)
        have HGW := Lib.hid (show ∀ k, G k → w2.heap[k]? = wr.heap[k]? from fun k hk => HB2.out.block k (HP.out.held k hk) (HP.out.apart k hk))
        have HHG := Lib.hid (show Held G w2 from fun k hk => Nat.lt_of_lt_of_le (HP.out.held k hk) hs2)
        have HR2 := Lib.hid (HP.out.ref.on HGW.out)
        have HONR := Lib.hid (show Calls Tryz.prog 11 #[.agg #[.int .i64 (C.disk.blocks : Int), .int .i64 (C.disk.size : Int), .slice la C.disk.lasting.length lc, .slice wa C.disk.waiting.length wq, .bool C.disk.lit, .int .i64 C.disk.after, .int .i64 C.disk.torn, .int .i64 C.disk.cut, .slice ka C.disk.keep.length kc, .bool C.disk.off, .int .i64 C.disk.count]] w2 fun e w' => GivesR G w2 E e w' ∧ Below w2.heap.size w2 w' from refOn8 HR2.out.diskAt HHG.out HE.out)
        clear hUL
        obtain ⟨x0, x1, x2, x3, x4, x5, x6, x7, x8, x9, x10, x11, x12⟩ := (show BoxAt w2 tb [.slice sa C.slots.length sc, .int .i64 (C.hand : Int), .int .i64 (C.disk.blocks : Int), .int .i64 (C.disk.size : Int), .slice la C.disk.lasting.length lc, .slice wa C.disk.waiting.length wq, .bool C.disk.lit, .int .i64 C.disk.after, .int .i64 C.disk.torn, .int .i64 C.disk.cut, .slice ka C.disk.keep.length kc, .bool C.disk.off, .int .i64 C.disk.count] from HX2.out).thirteen
        go_upto_region 11 with (go_at_call 11; (refine HONR.out.mono ?_); (rintro e w3 ⟨⟨v3, rfl, hr3⟩, hb3⟩); (obtain ⟨la2, lc2, wa2, wq2, ka2, kc2, rfl, h3⟩ := HR2.out.newDisk (fun k hk => hb3.block k (HHG.out k hk)) (fun k hk => .inl hk) hr3); (have H3 := Lib.hid (show RefC (More G w2 w3) w3 { C with disk := E } ⟨sa, sc, la2, lc2, wa2, wq2, ka2, kc2⟩ from h3)); (have HB3 := Lib.hid hb3); (obtain ⟨y0, y1, y2, y3, y4, y5, y6, y7, y8, y9, y10, y11, y12⟩ := (show BoxAt w3 tb [.slice sa C.slots.length sc, .int .i64 (C.hand : Int), .int .i64 (C.disk.blocks : Int), .int .i64 (C.disk.size : Int), .slice la C.disk.lasting.length lc, .slice wa C.disk.waiting.length wq, .bool C.disk.lit, .int .i64 C.disk.after, .int .i64 C.disk.torn, .int .i64 C.disk.cut, .slice ka C.disk.keep.length kc, .bool C.disk.off, .int .i64 C.disk.count] from HX2.out.below hb3).thirteen); (obtain ⟨f0, f1, f2, f3, f4, f5, f6, f7, f8, f9, f10, f11, f12⟩ := (show BoxAt w3 tb [.slice sa C.slots.length sc, .int .i64 (C.hand : Int), .int .i64 (C.disk.blocks : Int), .int .i64 (C.disk.size : Int), .slice la C.disk.lasting.length lc, .slice wa C.disk.waiting.length wq, .bool C.disk.lit, .int .i64 C.disk.after, .int .i64 C.disk.torn, .int .i64 C.disk.cut, .slice ka C.disk.keep.length kc, .bool C.disk.off, .int .i64 C.disk.count] from HX2.out.below hb3).thirteenF); (clear hr3 h3 hb3); (unfold refD))
        refine wp_name fun V hV => ?_
        obtain ⟨Z0, hZ0, hxx, hgg⟩ := BoxAt.fill11s (show BoxAt w3 tb [.slice sa C.slots.length sc, .int .i64 (C.hand : Int), .int .i64 (C.disk.blocks : Int), .int .i64 (C.disk.size : Int), .slice la C.disk.lasting.length lc, .slice wa C.disk.waiting.length wq, .bool C.disk.lit, .int .i64 C.disk.after, .int .i64 C.disk.torn, .int .i64 C.disk.cut, .slice ka C.disk.keep.length kc, .bool C.disk.off, .int .i64 C.disk.count] from HX2.out.below HB3.out) (.int .i64 (E.blocks : Int)) (.int .i64 (E.size : Int)) (.slice la2 E.lasting.length lc2) (.slice wa2 E.waiting.length wq2) (.bool E.lit) (.int .i64 E.after) (.int .i64 E.torn) (.int .i64 E.cut) (.slice ka2 E.keep.length kc2) (.bool E.off) (.int .i64 E.count)
        rw [← hZ0] at hV
        clear hZ0
        subst hV
        obtain ⟨D0, hDD⟩ : ∃ D0, ({ C with disk := E } : Ch.Cache) = D0 := ⟨_, rfl⟩
        have hon0 : D0.disk.off = false ∧ D0.disk.lit = false := by rw [← hDD, ← HE.out]; exact ⟨rfl, rfl⟩
        have HPV := Lib.hid (show PlayC w V c dp tb (6 + 6 * k) sl D0 (More U' wr w2) (More G w2 w3) ⟨sa, sc, la2, lc2, wa2, wq2, ka2, kc2⟩ rg' rc' from by
          have hs3 := HB3.out.size
          have hsg := hgg.size
          have hUtb : ¬ More U' wr w2 tb := fun h => by
            rcases h with h | h
            · exact htU h
            · omega
          have hGtb : ¬ More G w2 w3 tb := fun h => by
            rcases h with h | h
            · exact htG h
            · omega
          have hXm : ∀ q, More G w2 w3 q → q < w3.heap.size := fun q hq => hq.elim (fun h => by have := HHG.out q h; omega) fun h => h.2
          rw [← hDD]
          refine ⟨by rw [← HE.out]; exact HP.out.fit.on, (HC2.out.below HB3.out).keep hgg hUtb, H3.out.on fun q hq => hgg.block q (hXm q hq) (by intro e; have e2 := Option.some.inj e; exact hGtb (by first | (rw [e2]; exact hq) | (rw [← e2]; exact hq))), hxx, fun q hq => by have := hXm q hq; omega, fun q hq hqu => ?_, ⟨hUtb, hGtb⟩, fun q hq => hq.elim (HUL.out q) fun h => by omega, htl, (HP.out.below.trans (HB2.out.below HUL.out hwr)).trans ((HB3.out.mono (by omega)).trans (below_of_grown hgg htl (by omega)))⟩
          rcases hq with hq | hq
          · rcases hqu with hqu | hqu
            · exact HP.out.apart q hq hqu
            · have := HP.out.held q hq; omega
          · rcases hqu with hqu | hqu
            · have := HP.out.prog.held q hqu; omega
            · omega)
        clear hxx hgg hDD HP HON HD4 HD3 HC2 HB2 HX2 HGW HHG HR2 HONR HUL htU htG htbl hs2 x0 x1 x2 x3 x4 x5 x6 x7 x8 x9 x10 x11 x12 y0 y1 y2 y3 y4 y5 y6 y7 y8 y9 y10 y11 y12 f0 f1 f2 f3 f4 f5 f6 f7 f8 f9 f10 f11 f12
        obtain ⟨X, hX, hXf, hXo⟩ := Ch.flush_on HPV.out.fit hon0
        have HX := Lib.hid hX
        have HXF := Lib.hid hXf
        have HXO := Lib.hid hXo
        clear hX hXf hXo hon0
        generalize hU2 : More U' wr w2 = U2 at HPV
        generalize hG2 : More G w2 w3 = G2 at HPV
        clear hU2 hG2
        have HFL := Lib.hid (show Calls Tryz.prog 12 #[.agg #[.slice sa D0.slots.length sc, .int .i64 (D0.hand : Int), .int .i64 (D0.disk.blocks : Int), .int .i64 (D0.disk.size : Int), .slice la2 D0.disk.lasting.length lc2, .slice wa2 D0.disk.waiting.length wq2, .bool D0.disk.lit, .int .i64 D0.disk.after, .int .i64 D0.disk.torn, .int .i64 D0.disk.cut, .slice ka2 D0.disk.keep.length kc2, .bool D0.disk.off, .int .i64 D0.disk.count]] V (GivesCK G2 V X 0) from by
          have hh := refCflush_is HPV.out.ref HPV.out.held HPV.out.fit.ok (by omega) HX.out
          unfold refCV at hh
          exact hh)
        obtain ⟨x0, x1, x2, x3, x4, x5, x6, x7, x8, x9, x10, x11, x12⟩ := (show BoxAt V tb [.slice sa D0.slots.length sc, .int .i64 (D0.hand : Int), .int .i64 (D0.disk.blocks : Int), .int .i64 (D0.disk.size : Int), .slice la2 D0.disk.lasting.length lc2, .slice wa2 D0.disk.waiting.length wq2, .bool D0.disk.lit, .int .i64 D0.disk.after, .int .i64 D0.disk.torn, .int .i64 D0.disk.cut, .slice ka2 D0.disk.keep.length kc2, .bool D0.disk.off, .int .i64 D0.disk.count] from HPV.out.box).thirteen
        go_upto_region 12 with (go_at_call 12; (refine HFL.out.mono ?_); (rintro e w4 ⟨⟨⟨sa7, sc7, la7, lc7, wa7, wq7, ka7, kc7⟩, rfl, h4⟩, hb4⟩); (have H4 := Lib.hid h4); (have HB4 := Lib.hid hb4); (clear h4 hb4); (unfold refCV))
        obtain ⟨xb, hxb⟩ : ∃ xb, w4.heap.size = xb := ⟨_, rfl⟩
        refine wp_name fun V4 hV => ?_
        have hv : BoxAt V4 xb [.slice sa7 X.slots.length sc7, .int .i64 (X.hand : Int), .int .i64 (X.disk.blocks : Int), .int .i64 (X.disk.size : Int), .slice la7 X.disk.lasting.length lc7, .slice wa7 X.disk.waiting.length wq7, .bool X.disk.lit, .int .i64 X.disk.after, .int .i64 X.disk.torn, .int .i64 X.disk.cut, .slice ka7 X.disk.keep.length kc7, .bool X.disk.off, .int .i64 X.disk.count] ∧ Below w4.heap.size w4 V4 := by
          rw [hV]
          exact ⟨BoxAt.newAt _ _ hxb [_, _, _, _, _, _, _, _, _, _, _, _, _] _, by go_grown⟩
        have HXB := Lib.hid hv.1
        have HBV4 := Lib.hid hv.2
        have hxe : w4.heap.size ≤ xb := Nat.le_of_eq hxb
        clear hV hv HFL x0 x1 x2 x3 x4 x5 x6 x7 x8 x9 x10 x11 x12
        rw [hxb]
        clear hxb
        have hs4 := HB4.out.size
        have hsV4 := HBV4.out.size
        have HBVV := Lib.hid (below_step HB4.out HBV4.out)
        have HPV4 := Lib.hid (HPV.out.later HBVV.out)
        have hUV := HPV.out.prog.held
        have hGV := HPV.out.held
        have htV : tb < V.heap.size := HPV.out.box.lt
        have HR4 := Lib.hid (show RefC (More G2 V w4) V4 X ⟨sa7, sc7, la7, lc7, wa7, wq7, ka7, kc7⟩ from H4.out.on fun q hq => HBV4.out.block q (hq.elim (fun h => by have := hGV q h; omega) fun h => h.2))
        have hxU : ¬ U2 xb := fun h => by have := hUV _ h; omega
        have hmeet : ∀ wx, Beside U2 V4.drew wx → Sents wx A := fun wx hx => HS.out.below (HPV4.out.below.trans (Beside.below (w := V4) ⟨hx.os, hx.tape, hx.output, hx.size, hx.block⟩ HPV4.out.low HPV4.out.below.size))
        have HMEET := Lib.hid hmeet
        clear hmeet
        have HUV := Lib.hid hUV
        have HGV := Lib.hid hGV
        clear hUV hGV
        have x5 := Far.dcell8 (w := V4) (F := U2) (show V4.cell? ⟨xb, 5, none⟩ = some (.slice wa7 X.disk.waiting.length wq7) from HXB.out.at 5 _ rfl) hxU
        refine wp_region_mix (fun w' => ∃ x : Far V4.drew U2, w' = x.world) [] 13 (by kernel_rfl) rfl ?_
        refine mix_reads_lit [0] 12 (by kernel_rfl) (by kernel_rfl) (by kernel_rfl) (by kernel_rfl) rfl (FarC.of (Beside.refl _ _)) ?_
        simp only [pick, List.filterMap_cons, List.filterMap_nil, List.getElem?_cons_succ, List.getElem?_cons_zero]
        repeat (first | go_big_quiet_step (fail) | quiet_step (fail))
        refine wpQuiet_nil ?_
        refine mix_deed_lit 1 11 (by kernel_rfl) (by kernel_rfl) rfl (fun K hK => ?_)
        simp only [comesUp, List.getElem?_cons_succ, List.getElem?_cons_zero]
        refine if_mk rfl ?_
        go_simp
        refine (cflush_is (HPV4.out.prog.below (Below.refl _ _).drew) HPV4.out.fit.ok (by omega) HX.out A HMEET.out).mono ?_
        rintro e w5 ⟨l5, v5, rfl, hE5, hC5, hB5⟩
        obtain ⟨rfl, rfl⟩ := hE5.isNil
        refine hK _ _ (fun _ _ => FarC.of hB5) ?_
        clear hK K hE5
        have HC5 := Lib.hid (show CIn (More U2 V4 w5) w5 c dp rg' rc' X from hC5)
        have HB5 := Lib.hid (show Beside U2 V4 w5 from ⟨hB5.os, hB5.tape, hB5.output, hB5.size, hB5.block⟩)
        refine mix_deed_lit 2 10 (by kernel_rfl) (by kernel_rfl) rfl (fun K hK => ?_)
        simp only [comesUp, List.getElem?_cons_succ, List.getElem?_cons_zero]
        refine if_mk rfl ?_
        go_simp
        refine hK _ _ (fun _ h => h) ?_
        clear hK K
        refine mix_reads_lit [3, 4] 8 (by kernel_rfl) (by kernel_rfl) (by kernel_rfl) (by kernel_rfl) rfl (FarC.of hB5) ?_
        simp only [pick, List.filterMap_cons, List.filterMap_nil, List.getElem?_cons_succ, List.getElem?_cons_zero]
        repeat (first | go_big_quiet_step (fail) | quiet_step (fail))
        refine wpQuiet_nil ?_
        refine mix_reads_lit [7, 8, 9, 10] 4 (by kernel_rfl) (by kernel_rfl) (by kernel_rfl) (by kernel_rfl) rfl (FarC.of hB5) ?_
        simp only [pick, List.filterMap_cons, List.filterMap_nil, List.getElem?_cons_succ, List.getElem?_cons_zero]
        repeat (first | go_big_quiet_step (fail) | quiet_step (fail))
        refine wpQuiet_nil ?_
        clear x5
        refine mix_deed_lit 5 3 (by kernel_rfl) (by kernel_rfl) rfl (fun K hK => ?_)
        simp only [comesUp, List.getElem?_cons_succ, List.getElem?_cons_zero]
        refine if_mk rfl ?_
        go_simp
        refine (cdisk_is HC5.out.box).mono ?_
        rintro e w5' ⟨rfl, rfl⟩
        refine hK _ _ (fun _ h => h) ?_
        clear hK K
        obtain ⟨F5, hk1, hk2, hk3, hk4⟩ := HC5.out.disks
        refine mix_deed_lit 6 2 (by kernel_rfl) (by kernel_rfl) rfl (fun K hK => ?_)
        simp only [comesUp, List.getElem?_cons_succ, List.getElem?_cons_zero]
        refine if_mk rfl ?_
        go_simp
        refine (waiting_is hk1).mono ?_
        rintro e w5' ⟨rfl, rfl⟩
        refine hK _ _ (fun _ h => h) ?_
        clear hK K hk1 hk2 hk3 hk4
        refine mix_reads_lit [11, 12] 0 (by kernel_rfl) (by kernel_rfl) (by kernel_rfl) (by kernel_rfl) rfl (FarC.of hB5) ?_
        simp only [pick, List.filterMap_cons, List.filterMap_nil, List.getElem?_cons_succ, List.getElem?_cons_zero]
        repeat (first | go_big_quiet_step (fail) | quiet_step (fail))
        refine wpQuiet_nil ?_
        clear hB5
        refine mix_done_lit (by kernel_rfl) ?_
        have htU2 : ¬ U2 tb := HPV4.out.out.1
        have htG2 : ¬ G2 tb := HPV4.out.out.2
        have hs5 := HB5.out.size
        have HT5 := Lib.hid (HPV4.out.box.beside HB5.out htU2)
        have HX5 := Lib.hid (HXB.out.beside HB5.out hxU)
        have HR5 := Lib.hid (show RefC (More G2 V w4) w5 X ⟨sa7, sc7, la7, lc7, wa7, wq7, ka7, kc7⟩ from HR4.out.on fun q hq => HB5.out.block q (hq.elim (fun h => by have := HGV.out q h; omega) fun h => by omega) (fun hu => hq.elim (fun h => HPV4.out.apart q h hu) fun h => by have := HUV.out q hu; omega))
        obtain ⟨z0, z1, z2, z3, z4, z5, z6, z7, z8, z9, z10, z11, z12⟩ := (show BoxAt w5 xb [.slice sa7 X.slots.length sc7, .int .i64 (X.hand : Int), .int .i64 (X.disk.blocks : Int), .int .i64 (X.disk.size : Int), .slice la7 X.disk.lasting.length lc7, .slice wa7 X.disk.waiting.length wq7, .bool X.disk.lit, .int .i64 X.disk.after, .int .i64 X.disk.torn, .int .i64 X.disk.cut, .slice ka7 X.disk.keep.length kc7, .bool X.disk.off, .int .i64 X.disk.count] from HX5.out).thirteen
        have ht5 : BoxAt w5 tb [.slice sa D0.slots.length sc, .int .i64 (D0.hand : Int), .int .i64 (D0.disk.blocks : Int), .int .i64 (D0.disk.size : Int), .slice la2 D0.disk.lasting.length lc2, .slice wa2 D0.disk.waiting.length wq2, .bool D0.disk.lit, .int .i64 D0.disk.after, .int .i64 D0.disk.torn, .int .i64 D0.disk.cut, .slice ka2 D0.disk.keep.length kc2, .bool D0.disk.off, .int .i64 D0.disk.count] := HT5.out
        obtain ⟨y0, y1, y2, y3, y4, y5, y6, y7, y8, y9, y10, y11, y12⟩ := ht5.thirteen
        obtain ⟨f0, f1, f2, f3, f4, f5, f6, f7, f8, f9, f10, f11, f12⟩ := ht5.thirteenF
        go_upto_region 15 with fail
        refine wp_name fun V7 hV => ?_
        obtain ⟨Z7, hZ7, hf7, hg7⟩ := ht5.fill13s (.slice sa7 X.slots.length sc7) (.int .i64 (X.hand : Int)) (.int .i64 (X.disk.blocks : Int)) (.int .i64 (X.disk.size : Int)) (.slice la7 X.disk.lasting.length lc7) (.slice wa7 X.disk.waiting.length wq7) (.bool X.disk.lit) (.int .i64 X.disk.after) (.int .i64 X.disk.torn) (.int .i64 X.disk.cut) (.slice ka7 X.disk.keep.length kc7) (.bool X.disk.off) (.int .i64 X.disk.count)
        rw [← hZ7] at hV
        clear hZ7
        subst hV
        have HP7 := Lib.hid (show PlayC w V7 c dp tb (6 + 6 * k + sl) sl X (More U2 V4 w5) (More G2 V w4) ⟨sa7, sc7, la7, lc7, wa7, wq7, ka7, kc7⟩ rg' rc' from by
          have hs7 := hg7.size
          have hUtb : ¬ More U2 V4 w5 tb := fun h => by
            rcases h with h | h
            · exact htU2 h
            · omega
          have hGtb : ¬ More G2 V w4 tb := fun h => by
            rcases h with h | h
            · exact htG2 h
            · omega
          have hXm : ∀ q, More G2 V w4 q → q < w5.heap.size := fun q hq => hq.elim (fun h => by have := HGV.out q h; omega) fun h => by omega
          refine ⟨HXF.out, HC5.out.keep hg7 hUtb, HR5.out.on fun q hq => hg7.block q (hXm q hq) (by intro e; have e2 := Option.some.inj e; exact hGtb (by first | (rw [e2]; exact hq) | (rw [← e2]; exact hq))), hf7, fun q hq => by have := hXm q hq; omega, fun q hq hqu => ?_, ⟨hUtb, hGtb⟩, fun q hq => hq.elim (HPV4.out.low q) fun h => by have := HPV4.out.below.size; omega, htl, (HPV4.out.below.trans (HB5.out.below HPV4.out.low HPV4.out.below.size)).trans (below_of_grown hg7 htl (by have := HPV4.out.below.size; omega))⟩
          rcases hq with hq | hq
          · rcases hqu with hqu | hqu
            · exact HPV4.out.apart q hq hqu
            · have := HGV.out q hq; omega
          · rcases hqu with hqu | hqu
            · have := HUV.out q hqu; omega
            · omega)
        clear ht5 hf7 hg7 htU2 htG2 HT5 HX5 HR5 HC5 HB5 HR4 HPV4 HBVV HBV4 HB4 H4 HPV HXB HMEET HUV HGV hs4 hsV4 hs5 hxU htV hxe z0 z1 z2 z3 z4 z5 z6 z7 z8 z9 z10 z11 z12 y0 y1 y2 y3 y4 y5 y6 y7 y8 y9 y10 y11 y12 f0 f1 f2 f3 f4 f5 f6 f7 f8 f9 f10 f11 f12
        generalize hU3 : More U2 V4 w5 = U3 at HP7
        generalize hG3 : More G2 V w4 = G3 at HP7
        clear hU3 hG3
        go_wp2_with fail
        go_loopw [11] (fun i wx => ∃ j : Nat, j ≤ 12 ∧ i = .int .i64 (j : Int) ∧ Below V7.heap.size V7 wx) (fun i _ => 12 - (intOf i).toNat)
        case atStart => exact ⟨0, by omega, rfl, Below.refl _ _⟩
        case round =>
          obtain ⟨j, hj, rfl, hbj⟩ := hrel
          have HP8 := Lib.hid (HP7.out.later hbj)
          have HBJ := Lib.hid hbj
          clear hbj
          by_cases hj12 : j < 12
          · have hj1 : (j : Int) < 12 := by omega
            obtain ⟨L, hL⟩ : ∃ L, Bk.read X.disk j = L := ⟨_, rfl⟩
            have HLL := Lib.hid hL
            have hin : Bk.In X.disk (j : Int) := by unfold Bk.In; rw [HP8.out.fit.geo.1]; omega
            have HIN := Lib.hid hin
            obtain ⟨F8, hk1, hk2, hk3, hk4⟩ := HP8.out.prog.disks
            have HRD := Lib.hid (read_to hk1 HP8.out.fit.ok.disk (j : Int) hin HXO.out L (by rw [Int.toNat_natCast]; exact hL))
            clear hk1 hk2 hk3 hk4 hL hin
            go_upto_region 19 with (first
              | (go_at_call 15; (refine HRD.out.mono ?_); (rintro e w9 ⟨⟨g9, rfl, ho9⟩, hb9⟩); (have HO9 := Lib.hid ho9); (have HB9 := Lib.hid hb9); (clear ho9 hb9))
              | (go_at_call 9; (refine (cdisk_is HP8.out.prog.box).mono ?_); (rintro e w1 ⟨rfl, rfl⟩)))
            have HP9 := Lib.hid (HP8.out.later HB9.out)
            have HREF := Lib.hid (show Calls Tryz.prog 17 #[.agg #[.int .i64 (X.disk.blocks : Int), .int .i64 (X.disk.size : Int), .slice la7 X.disk.lasting.length lc7, .slice wa7 X.disk.waiting.length wq7, .bool X.disk.lit, .int .i64 X.disk.after, .int .i64 X.disk.torn, .int .i64 X.disk.cut, .slice ka7 X.disk.keep.length kc7, .bool X.disk.off, .int .i64 X.disk.count], .int .i64 (j : Int)] w9 fun e w' => GivesG G3 L e w' ∧ Below w9.heap.size w9 w' from refRead4_ok HP9.out.ref.diskAt HP9.out.fit.ok.disk j (by rw [HP9.out.fit.geo.1]; exact hj12) L HLL.out)
            obtain ⟨x0, x1, x2, x3, x4, x5, x6, x7, x8, x9, x10, x11, x12⟩ := (show BoxAt w9 tb [.slice sa7 X.slots.length sc7, .int .i64 (X.hand : Int), .int .i64 (X.disk.blocks : Int), .int .i64 (X.disk.size : Int), .slice la7 X.disk.lasting.length lc7, .slice wa7 X.disk.waiting.length wq7, .bool X.disk.lit, .int .i64 X.disk.after, .int .i64 X.disk.torn, .int .i64 X.disk.cut, .slice ka7 X.disk.keep.length kc7, .bool X.disk.off, .int .i64 X.disk.count] from HP9.out.box).thirteen
            have hbe : (L == L) = true := by simp
            have HSB := Lib.hid (show ∀ (wz : World) (s1 s2 : Value), BytesAt wz s1 L → BytesAt wz s2 L → Calls Tryz.prog 16 #[s1, s2] wz fun e w' => e = .returned (.bool true) ∧ Below wz.heap.size wz w' from fun wz s1 s2 h1 h2 => by
              have hh := same_any s1 s2 L L wz h1 h2
              rw [hbe] at hh
              exact hh)
            clear hbe
            go_wp2_with (first
              | (go_at_call 16; (refine (HSB.out _ _ _ (HO9.out.bytes.below HB10.out) HY10.out).mono ?_); (rintro e w11 ⟨rfl, hb11⟩); (have HB11 := Lib.hid hb11); (clear hb11))
              | (go_at_call 17; (refine HREF.out.mono ?_); (rintro e w10 ⟨⟨a10, c10, rfl, hby10, hg10⟩, hb10⟩); (have HY10 := Lib.hid hby10); (have HB10 := Lib.hid hb10); (clear hby10 hg10 hb10)))
            go_roundw
            case rel => exact ⟨j + 1, by omega, by go_num, below_step HBJ.out (below_step HB9.out (below_step HB10.out HB11.out))⟩
            case measure => simp [intOf]; omega
          · obtain rfl : j = 12 := by omega
            go_wp2_with (go_at_call 18; (refine (awake08_any _ A (HS.out.below HP8.out.below)).mono ?_); (rintro e w9 ⟨rfl, hb9⟩); (have HB9 := Lib.hid hb9); (clear hb9))
            go_ret
            exact ⟨rfl, below_step HP8.out.below HB9.out⟩
end Go.Proofs.YtflbioiildndoaaGreatDoor

