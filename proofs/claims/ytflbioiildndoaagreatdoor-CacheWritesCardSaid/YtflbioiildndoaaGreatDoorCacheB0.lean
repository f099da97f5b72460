/- the statements of caches: the document's world (printed by wip/tools/gen_refc.py from rc/world08.txt) -/
import Derived.Test.YtflbioiildndoaaGreatDoorRefC6
namespace Go.Proofs.YtflbioiildndoaaGreatDoor
open Go.RowKit
set_option linter.unusedVariables false
set_option linter.unusedSimpArgs false

set_option maxRecDepth 100000 in
set_option maxHeartbeats 8000000 in
theorem world08_is (n : Int) (N : Nat) (hn : n = (N : Int)) (hN : 3 ≤ N ∧ N ≤ 64) (M : Bk.Disk) (hM : Ch.madeD 6 = M) (w : World) :
    Calls Tryz.prog 7 #[.int .i64 n] w (GivesC (fun _ => False) w (Ch.new M N)) := by
  subst hn
  have HM := Lib.hid hM
  clear hM
  go_enter Tryz.func7, Tryz.ntmps7
  go_upto_region 1 with fail
  obtain ⟨rb, hrb⟩ : ∃ rb, w.heap.size = rb := ⟨_, rfl⟩
  refine wp_name fun W hW => ?_
  have HR := Lib.hid (show BoxAt W rb zeroC by rw [hW]; exact BoxAt.newAt _ _ hrb [_, _, _, _, _, _, _, _, _, _, _, _, _] _)
  have HB := Lib.hid (show Below w.heap.size w W by rw [hW]; exact (Below.refl _ _).alloc (Nat.le_refl _) _)
  have HRB := Lib.hid hrb
  clear hW
  rw [hrb]
  clear hrb
  obtain ⟨D0, hD0⟩ : ∃ D0, Ch.madeD 0 = D0 := ⟨_, rfl⟩
  have HD0 := Lib.hid hD0
  have HNEW := Lib.hid (show ∀ w1 : World, Calls Tryz.prog 30 #[.agg #[.int .i64 12, .int .i64 256]] w1 fun e w' => GivesR (fun _ => False) w1 D0 e w' ∧ Below w1.heap.size w1 w' from fun w1 => by
    have hh := refNew4 12 256 (by omega) (by omega) w1
    rw [show Bk.new 12 256 = D0 from hD0] at hh
    exact hh)
  clear hD0
  go_upto_region 2 with (first
    | (go_at_call 30; (refine (HNEW.out _).mono ?_); (rintro e w2 ⟨⟨v2, rfl, hr2⟩, hb2⟩); (obtain ⟨lv2, wv2, kv2, xs2, ys2, rfl, h2⟩ := hr2); (obtain ⟨la2, lc2, wa2, wc2, ka2, kc2, rfl, rfl, rfl⟩ := h2.shape); (have H2 := Lib.hid h2); (have HB2 := Lib.hid hb2); (clear h2 hb2); (unfold refD))
    | (go_at_call 25; (refine (small08_is _).mono ?_); (rintro e w1 ⟨rfl, hb1⟩); (have HB1 := Lib.hid hb1); (clear hb1)))
  obtain ⟨db, hdb⟩ : ∃ db, w2.heap.size = db := ⟨_, rfl⟩
  refine wp_name fun V hV => ?_
  have hbV : Below w2.heap.size w2 V := by rw [hV]; exact (Below.refl _ _).alloc (Nat.le_refl _) _
  have hX : BoxAt V db (cellsD D0 (.slice la2 xs2.length lc2) (.slice wa2 ys2.length wc2) (.slice ka2 D0.keep.length kc2)) := by rw [hV]; exact BoxAt.newAt _ _ hdb [_, _, _, _, _, _, _, _, _, _, _] _
  have HINV := Lib.hid (show ∃ (X : Nat → Prop) (lv wv kv : Value) (xs : List Sl3) (ys : List (Int × Sl3)), DiskR X V D0 lv wv kv xs ys ∧ BoxAt V db (cellsD D0 lv wv kv) ∧ BoxAt V rb zeroC ∧ (∀ k, X k → w.heap.size ≤ k ∧ k < V.heap.size ∧ k ≠ db ∧ k ≠ rb) ∧ Below w.heap.size w V from by
    have h1 := HB.out.size
    have h3 := HB1.out.size
    have h4 := HB2.out.size
    have h5 := hX.lt
    have h6 := HR.out.lt
    have h7 := HRB.out
    refine ⟨_, _, _, _, xs2, ys2, H2.out.on fun k hk => hbV.block k ?_, hX, ((HR.out.below HB1.out).below HB2.out).below hbV, fun k hk => ?_, below_step (below_step (below_step HB.out HB1.out) HB2.out) hbV⟩
    · rcases hk with hk | hk
      · cases hk
      · exact hk.2
    · rcases hk with hk | hk
      · cases hk
      · omega)
  have HNE := Lib.hid (show rb ≠ db by have h1 := HR.out.lt; have h3 := HB1.out.size; have h4 := HB2.out.size; omega)
  have HDBW := Lib.hid (show w.heap.size ≤ db by have h1 := HB.out.size; have h3 := HB1.out.size; have h4 := HB2.out.size; omega)
  clear hV hbV hX
  rw [hdb]
  clear hdb
  go_wp2_with fail
  go_loopw [4] (fun i wr => ∃ k : Nat, k ≤ 6 ∧ i = .int .i64 ((k : Int) + 2) ∧ ∃ (X : Nat → Prop) (lv wv kv : Value) (xs : List Sl3) (ys : List (Int × Sl3)), DiskR X wr (Ch.madeD k) lv wv kv xs ys ∧ BoxAt wr db (cellsD (Ch.madeD k) lv wv kv) ∧ BoxAt wr rb zeroC ∧ (∀ k, X k → w.heap.size ≤ k ∧ k < wr.heap.size ∧ k ≠ db ∧ k ≠ rb) ∧ Below w.heap.size w wr) (fun i _ => 8 - (intOf i).toNat)
  case atStart => exact ⟨0, by omega, rfl, by rw [HD0.out]; exact HINV.out⟩
  case round =>
    clear HINV H2 HB1 HB2 HR HB HNEW
    obtain ⟨k, hk, rfl, X, lv, wv, kv, xs, ys, hd, hx, hr, hX, hb⟩ := hrel
    obtain ⟨la, lc, wa, wc, ka, kc, rfl, rfl, rfl⟩ := hd.shape
    have HD := Lib.hid hd
    have HX := Lib.hid hx
    have HR := Lib.hid hr
    have HXX := Lib.hid hX
    have HB := Lib.hid hb
    clear hd hx hr hX hb
    by_cases hlt : k < 6
    · have hlt1 : (k : Int) + 2 < 8 := by omega
      obtain ⟨f, hf⟩ : ∃ f : UInt8, UInt8.ofNat (k + 2) = f := ⟨_, rfl⟩
      have hwf : IntKind.u8.wrap ((k : Int) + 2) = (f.toNat : Int) := by rw [← hf, IntKind.wrap_u8, UInt8.toNat_ofNat']; omega
      have HV := Lib.hid (show Ch.V0 ((k : Int) + 2) = ⟨3, (k : Int) + 2, 1, [f]⟩ by unfold Ch.V0 Ch.leafP; rw [show ((k : Int) + 2).toNat = k + 2 by omega, hf])
      obtain ⟨hp1, hp2⟩ := Ch.madeD_put hlt (Ch.madeD_ok (by omega))
      have hok := (Ch.madeD_ok (k := k) (by omega)).ok
      obtain ⟨SL, hSL⟩ : ∃ SL, Pg.sealL (Ch.V0 ((k : Int) + 2)) 256 = SL := ⟨_, rfl⟩
      rw [hSL] at hp1
      have HSL := Lib.hid (show Pg.sealL ⟨3, (k : Int) + 2, 1, [f]⟩ 256 = SL by rw [← HV.out]; exact hSL)
      have hln : SL.length = 256 := by rw [← hSL]; exact Ch.leaf_seal _
      obtain ⟨M1, hM1⟩ : ∃ M1, Ch.madeD k = M1 := ⟨_, rfl⟩
      obtain ⟨M2, hM2⟩ : ∃ M2, Ch.madeD (k + 1) = M2 := ⟨_, rfl⟩
      rw [hM1, hM2] at hp1
      rw [hM1] at hok HD HX
      have HM2 := Lib.hid hM2
      have HP1 := Lib.hid hp1
      have HOK := Lib.hid hok
      clear hM1 hM2
      have HRS := Lib.hid (fun (wx : World) (g : Nat) (hb : BytesAt wx (.slice (some ⟨g, 0, none⟩) 1 1) [f]) => show Calls Tryz.prog 27 #[.agg #[.int .i64 3, .int .i64 ((k : Int) + 2), .int .u64 1, .slice (some ⟨g, 0, none⟩) 1 1], .int .i64 256] wx fun e w' => (∃ a c, e = .returned (.slice a 256 c) ∧ Own w' wx.heap.size (.slice a 256 c) SL) ∧ Below wx.heap.size wx w' from by
        have h := refSeal_ok ⟨3, (k : Int) + 2, 1, [f]⟩ (some ⟨g, 0, none⟩) 1 256 wx hb (Ch.leaf_ok f (by omega) (by omega)) (show 1 < 18446744073709551616 by decide)
        rw [HSL.out, hln] at h
        exact h)
      clear hp1 hp2 hok hSL hf hln
      have HHX := Lib.hid (show Held X wr from fun q hq => (HXX.out q hq).2.1)
      go_upto_region 5 with fail
      have hx1 : BoxAt wr db [.int .i64 (M1.blocks : Int), .int .i64 (M1.size : Int), .slice la xs.length lc, .slice wa ys.length wc, .bool M1.lit, .int .i64 M1.after, .int .i64 M1.torn, .int .i64 M1.cut, .slice ka M1.keep.length kc, .bool M1.off, .int .i64 M1.count] := HX.out
      obtain ⟨x0, x1, x2, x3, x4, x5, x6, x7, x8, x9, x10⟩ := hx1.eleven
      have c0 := Near.cell (w := wr.drew) (row := none) (show wr.drew.cell? ⟨db, 0, none⟩ = _ from x0) (by simp)
      have c1 := Near.cell (w := wr.drew) (row := none) (show wr.drew.cell? ⟨db, 1, none⟩ = _ from x1) (by simp)
      have c2 := Near.cell (w := wr.drew) (row := none) (show wr.drew.cell? ⟨db, 2, none⟩ = _ from x2) (by simp)
      have c3 := Near.cell (w := wr.drew) (row := none) (show wr.drew.cell? ⟨db, 3, none⟩ = _ from x3) (by simp)
      have c4 := Near.cell (w := wr.drew) (row := none) (show wr.drew.cell? ⟨db, 4, none⟩ = _ from x4) (by simp)
      have c5 := Near.cell (w := wr.drew) (row := none) (show wr.drew.cell? ⟨db, 5, none⟩ = _ from x5) (by simp)
      have c6 := Near.cell (w := wr.drew) (row := none) (show wr.drew.cell? ⟨db, 6, none⟩ = _ from x6) (by simp)
      have c7 := Near.cell (w := wr.drew) (row := none) (show wr.drew.cell? ⟨db, 7, none⟩ = _ from x7) (by simp)
      have c8 := Near.cell (w := wr.drew) (row := none) (show wr.drew.cell? ⟨db, 8, none⟩ = _ from x8) (by simp)
      have c9 := Near.cell (w := wr.drew) (row := none) (show wr.drew.cell? ⟨db, 9, none⟩ = _ from x9) (by simp)
      have c10 := Near.cell (w := wr.drew) (row := none) (show wr.drew.cell? ⟨db, 10, none⟩ = _ from x10) (by simp)
      refine wp_region_mix (fun w' => ∃ x : Near wr.drew none, w' = x.world) [11] 12 (by kernel_rfl) rfl ?_
      refine mix_reads_lit [0, 1, 2, 3, 4] 7 (by kernel_rfl) (by kernel_rfl) (by kernel_rfl) (by kernel_rfl) rfl (NearC.of (World.grownBy.refl _ _)) ?_
      simp only [pick, List.filterMap_cons, List.filterMap_nil, List.getElem?_cons_succ, List.getElem?_cons_zero]
      repeat (first | go_big_quiet_step (fail) | quiet_step (fail))
      refine wpQuiet_nil ?_
      clear c0 c1 c2 c3 c4 c5 c6 c7 c8 c9 c10 x0 x1 x2 x3 x4 x5 x6 x7 x8 x9 x10 hx1
      have b0 : Below wr.heap.size wr wr.drew := (Below.refl _ _).drew
      refine mix_deed_lit 5 6 (by kernel_rfl) (by kernel_rfl) rfl (fun K hK => ?_)
      simp only [comesUp, List.getElem?_cons_succ, List.getElem?_cons_zero]
      refine if_mk rfl ?_
      go_simp
      refine (leaf08_is ((k : Int) + 2) f _ rfl wr.drew).mono ?_
      rintro e u1 ⟨⟨g4, rfl, -, -, ho4, -⟩, hb4⟩
      have b1 : Below wr.heap.size wr u1 := below_step b0 hb4
      have bd1 : Below wr.heap.size wr.drew u1 := ⟨b1.os, b1.tape, b1.output, b1.size, b1.block⟩
      refine hK _ _ (fun _ _ => NearC.of (grown_of_below bd1 (Nat.le_refl _) _)) ?_
      clear hK K
      refine mix_deed_lit 6 5 (by kernel_rfl) (by kernel_rfl) rfl (fun K hK => ?_)
      simp only [comesUp, List.getElem?_cons_succ, List.getElem?_cons_zero]
      refine if_mk rfl ?_
      go_simp
      refine (HRS.out u1 g4 ho4).mono ?_
      rintro e u2 ⟨⟨a5, c5, rfl, ho5⟩, hb5⟩
      have b2 : Below wr.heap.size wr u2 := below_step b1 hb5
      have bd2 : Below wr.heap.size wr.drew u2 := ⟨b2.os, b2.tape, b2.output, b2.size, b2.block⟩
      have hby5 := ho5.bytes
      refine hK _ _ (fun _ _ => NearC.of (grown_of_below bd2 (Nat.le_refl _) _)) ?_
      clear hK K
      refine mix_deed_lit 7 4 (by kernel_rfl) (by kernel_rfl) rfl (fun K hK => ?_)
      simp only [comesUp, List.getElem?_cons_succ, List.getElem?_cons_zero]
      refine if_mk rfl ?_
      go_simp
      have hra : RefAt X u2 (.agg #[.int .i64 (M1.blocks : Int), .int .i64 (M1.size : Int), .slice la xs.length lc, .slice wa ys.length wc, .bool M1.lit, .int .i64 M1.after, .int .i64 M1.torn, .int .i64 M1.cut, .slice ka M1.keep.length kc, .bool M1.off, .int .i64 M1.count]) M1 := (HD.out.below HHX.out b2).at
      refine (refPut4_to8 hra HOK.out (HHX.out.more b2.size) ((k : Int) + 2) SL HP1.out _ hby5 (by omega)).mono ?_
      rintro e u3 ⟨⟨v6, rfl, hr6⟩, hb6⟩
      obtain ⟨lv6, wv6, kv6, xs6, ys6, rfl, h6⟩ := hr6
      obtain ⟨la6, lc6, wa6, wc6, ka6, kc6, rfl, rfl, rfl⟩ := h6.shape
      have b3 : Below wr.heap.size wr u3 := below_step b2 hb6
      have bd3 : Below wr.heap.size wr.drew u3 := ⟨b3.os, b3.tape, b3.output, b3.size, b3.block⟩
      unfold refD
      refine hK _ _ (fun _ _ => NearC.of (grown_of_below bd3 (Nat.le_refl _) _)) ?_
      clear hK K
      have H6 := Lib.hid h6
      have HB6 := Lib.hid hb6
      have HB3 := Lib.hid b3
      have HBU2 := Lib.hid b2.size
      clear h6 hb6 b3 bd3 b2 bd2 b1 bd1 b0 hb5 hb4 ho4 ho5 hby5 hra
      refine mix_reads_lit [8, 9, 10] 1 (by kernel_rfl) (by kernel_rfl) (by kernel_rfl) (by kernel_rfl) rfl (NearC.of (grown_of_below (show Below wr.heap.size wr.drew u3 from ⟨HB3.out.os, HB3.out.tape, HB3.out.output, HB3.out.size, HB3.out.block⟩) (Nat.le_refl _) _)) ?_
      simp only [pick, List.filterMap_cons, List.filterMap_nil, List.getElem?_cons_succ, List.getElem?_cons_zero]
      repeat (first | go_big_quiet_step (fail) | quiet_step (fail))
      refine wpQuiet_nil ?_
      have hx3 : BoxAt u3 db [.int .i64 (M1.blocks : Int), .int .i64 (M1.size : Int), .slice la xs.length lc, .slice wa ys.length wc, .bool M1.lit, .int .i64 M1.after, .int .i64 M1.torn, .int .i64 M1.cut, .slice ka M1.keep.length kc, .bool M1.off, .int .i64 M1.count] := HX.out.below HB3.out
      obtain ⟨z0, z1, z2, z3, z4, z5, z6, z7, z8, z9, z10⟩ := hx3.eleven
      obtain ⟨f0, f1, f2, f3, f4, f5, f6, f7, f8, f9, f10⟩ := hx3.elevenF
      refine mix_deed_lit 11 0 (by kernel_rfl) (by kernel_rfl) rfl (fun K hK => ?_)
      simp only [comesUp, List.getElem?_cons_succ, List.getElem?_cons_zero]
      refine if_mk rfl ?_
      go_simp
      refine hK _ _ (fun h => by simp [keeps] at h) ?_
      clear hK K z0 z1 z2 z3 z4 z5 z6 z7 z8 z9 z10 f0 f1 f2 f3 f4 f5 f6 f7 f8 f9 f10
      have hff := fill11 hx3 (.int .i64 (M2.blocks : Int)) (.int .i64 (M2.size : Int)) (.slice la6 xs6.length lc6) (.slice wa6 ys6.length wc6) (.bool M2.lit) (.int .i64 M2.after) (.int .i64 M2.torn) (.int .i64 M2.cut) (.slice ka6 M2.keep.length kc6) (.bool M2.off) (.int .i64 M2.count)
      refine mix_done_lit (by kernel_rfl) ?_
      refine q_name fun Z hZ => ?_
      rw [← hZ] at hff
      have HFF := Lib.hid hff
      clear hZ hff hx3
      have hw3 : IntKind.i64.wrap ((k : Int) + 2 + 1) = (k : Int) + 1 + 2 := by rw [IntKind.wrap_i64]; omega
      go_wp2_with fail
      go_roundw
      case rel =>
        have h2 := HBU2.out
        have h3 := HB3.out.size
        have h4 := HFF.out.2.size
        have hXm : ∀ q, More X u2 u3 q → w.heap.size ≤ q ∧ q < u3.heap.size ∧ q ≠ db ∧ q ≠ rb := fun q hq => by
          have g1 := HX.out.lt
          have g2 := HR.out.lt
          have g3 := HB.out.size
          rcases hq with hq | hq
          · have := HXX.out q hq; omega
          · omega
        refine ⟨k + 1, by omega, by go_num, More X u2 u3, _, _, _, xs6, ys6, by rw [HM2.out]; exact H6.out.on fun q hq => HFF.out.2.block q (hXm q hq).2.1 (by intro e; exact (hXm q hq).2.2.1 (Option.some.inj e)), by rw [HM2.out]; exact HFF.out.1, (HR.out.below HB3.out).on (HFF.out.2.block rb (by have := HR.out.lt; omega) (by intro e; exact HNE.out (Option.some.inj e))), fun q hq => ?_, (below_step HB.out HB3.out).trans (below_of_grown HFF.out.2 HDBW.out (by have := HB.out.size; omega))⟩
        have := hXm q hq
        omega
      case measure => simp [intOf]; omega
    · obtain rfl : k = 6 := by omega
      rw [HM.out] at HD HX
      have HHX := Lib.hid (show Held X wr from fun q hq => (HXX.out q hq).2.1)
      have HNEWC := Lib.hid (show Calls Tryz.prog 32 #[.agg #[.int .i64 (M.blocks : Int), .int .i64 (M.size : Int), .slice la xs.length lc, .slice wa ys.length wc, .bool M.lit, .int .i64 M.after, .int .i64 M.torn, .int .i64 M.cut, .slice ka M.keep.length kc, .bool M.off, .int .i64 M.count], .int .i64 (N : Int)] wr (GivesC X wr (Ch.new M N)) from refCnew_is HD.out.at HHX.out N hN.2)
      have hx1 : BoxAt wr db [.int .i64 (M.blocks : Int), .int .i64 (M.size : Int), .slice la xs.length lc, .slice wa ys.length wc, .bool M.lit, .int .i64 M.after, .int .i64 M.torn, .int .i64 M.cut, .slice ka M.keep.length kc, .bool M.off, .int .i64 M.count] := HX.out
      obtain ⟨x0, x1, x2, x3, x4, x5, x6, x7, x8, x9, x10⟩ := hx1.eleven
      clear hx1
      obtain ⟨C6, hC6⟩ : ∃ C6, Ch.new M N = C6 := ⟨_, rfl⟩
      rw [hC6] at HNEWC
      have HC6 := Lib.hid hC6
      clear hC6
      go_wp2_with (go_at_call 32; (refine HNEWC.out.mono ?_); (rintro e w6 ⟨⟨⟨sa6, sc6, la6, lc6, wa6, wq6, ka6, kc6⟩, rfl, h6⟩, hb6⟩); (have H6 := Lib.hid h6); (have HB6 := Lib.hid hb6); (obtain ⟨y0, y1, y2, y3, y4, y5, y6, y7, y8, y9, y10, y11, y12⟩ := (HR.out.below hb6).thirteen); (obtain ⟨f0, f1, f2, f3, f4, f5, f6, f7, f8, f9, f10, f11, f12⟩ := (HR.out.below hb6).thirteenF); (clear h6 hb6); (unfold refCV))
      refine bodyPost_ret (v := refCV C6 ⟨sa6, sc6, la6, lc6, wa6, wq6, ka6, kc6⟩) (by simp [results, Tryz.results7, go_sem, refCV, y0, y1, y2, y3, y4, y5, y6, y7, y8, y9, y10, y11, y12]) rfl ?_
      rw [HC6.out]
      have hg := grown13 w6 rb (.slice sa6 C6.slots.length sc6) (.int .i64 (C6.hand : Int)) (.int .i64 (C6.disk.blocks : Int)) (.int .i64 (C6.disk.size : Int)) (.slice la6 C6.disk.lasting.length lc6) (.slice wa6 C6.disk.waiting.length wq6) (.bool C6.disk.lit) (.int .i64 C6.disk.after) (.int .i64 C6.disk.torn) (.int .i64 C6.disk.cut) (.slice ka6 C6.disk.keep.length kc6) (.bool C6.disk.off) (.int .i64 C6.disk.count)
      have hgs := hg.size
      have hbs := HB.out.size
      have hb6 := HB6.out.size
      have hrl := HR.out.lt
      have hwr := HRB.out
      refine ⟨⟨_, rfl, RefC.hand (X := More X wr w6) H6.out fun q hq => ?_⟩, (below_step HB.out HB6.out).trans (below_of_grown hg (by omega) (by omega))⟩
      have hq2 : w.heap.size ≤ q ∧ q < w6.heap.size ∧ q ≠ rb := by
        rcases hq with hq | hq
        · have := HXX.out q hq; omega
        · omega
      exact ⟨.inr hq2.1, hg.block q hq2.2.1 (by intro e; exact hq2.2.2 (Option.some.inj e)), by omega⟩
end Go.Proofs.YtflbioiildndoaaGreatDoor

