/- the statement BlockFuses: its walk (printed by wip/tools/gen_laws04.py) -/
import Derived.Test.YtflbioiildndoaaDoorBlkPlay
import Derived.Test.YtflbioiildndoaaDoorBlkSame
import Derived.Test.YtflbioiildndoaaDoorBlkLawMath
import Derived.Test.YtflbioiildndoaaDoorOpen
namespace Go.Proofs.YtflbioiildndoaaDoor
open Go.RowKit
set_option linter.unusedVariables false
set_option linter.unusedSimpArgs false

/-- a disk of the program behind some flushes, and the document's, apart from it -/
def FuseI (w wr : World) (p nb : Nat) (M D : Bk.Disk) (G : Nat → Prop) (lv wv kv : Value) (xs : List Sl3) (ys : List (Int × Sl3)) : Prop :=
  ∃ F, DiskAt F wr p M ∧ Held F wr ∧ (∀ q, F q → w.heap.size ≤ q) ∧ (∀ q, G q → ¬ F q) ∧ ¬ F nb ∧ Below w.heap.size w wr ∧ BoxAt wr nb (cellsD D lv wv kv) ∧ DiskR G wr D lv wv kv xs ys ∧ Held G wr
theorem FuseI.next {w wr w' : World} {p nb : Nat} {M' D : Bk.Disk} {G F F' : Nat → Prop} {lv wv kv : Value} {xs : List Sl3} {ys : List (Int × Sl3)} (hF : Held F wr) (hFw : ∀ q, F q → w.heap.size ≤ q) (hGF : ∀ q, G q → ¬ F q) (hn : ¬ F nb) (hb : Below w.heap.size w wr) (hx : BoxAt wr nb (cellsD D lv wv kv)) (hr : DiskR G wr D lv wv kv xs ys) (hG : Held G wr)
    (hd : DiskAt F' w' p M') (hbe : Beside F wr w') (hg : Grows F wr F' w') : FuseI w w' p nb M' D G lv wv kv xs ys :=
  ⟨F', hd, hg.held, hg.ge hFw hb.size, hg.apart hG hGF, fun h => by
    rcases (hg _ h).1 with h1 | h1
    · exact hn h1
    · have := hx.lt; omega, hb.trans (hbe.below hFw hb.size), hx.beside hbe hn, hr.beside hbe hG hGF, fun q hq => Nat.lt_of_lt_of_le (hG q hq) hbe.size⟩
/-- the disk behind ten flushes, its power on again; the document's, behind one flush, its count laid anew -/
theorem fuses_math (D : Bk.Disk) (a : Nat) (ha : a < 8) (cut : Int) : ∃ M0 E, Bk.arm (Bk.on D) (a : Int) [] (-1) cut = (M0, 0) ∧ M0.count = D.count ∧ (∀ k, (Bk.flush (Bk.fl M0 k)) = (Bk.fl M0 (k + 1), if k < a then 0 else 7)) ∧ (∀ k, a ≤ k → (Bk.fl M0 (k + 1)).off = true) ∧
    Bk.flush (Bk.on D) = (E, 0) ∧ (a = 0 → (Bk.on (Bk.fl M0 10)).count = D.count ∧ (Bk.on (Bk.fl M0 10)).waiting.length = 0) ∧ (a ≠ 0 → Obs (Bk.on (Bk.fl M0 10)) { E with count := wrap64 (D.count + (a : Int)) }) := by
  refine ⟨Bk.armed D a cut, Bk.all (Bk.ticked (Bk.on D)), Prod.ext (Bk.armed_is D a cut).1 (Bk.armed_is D a cut).2, rfl, fun k => Prod.ext rfl (Bk.fl_code D a ha cut k), fun k hk => ?_, ?_, fun h0 => ?_, fun h0 => ?_⟩
  · rw [Bk.fl_blown D a ha cut (k + 1) (by omega)]
  · unfold Bk.flush
    rw [if_neg (by simp [Bk.on]), if_neg (by unfold Bk.blows; simp [Bk.on])]
  · rw [Bk.fl_blown D a ha cut 10 (by omega)]
    simp [Bk.on, h0]
  · rw [Bk.fl_blown D a ha cut 10 (by omega)]
    exact ⟨rfl, by simp [Bk.on, h0, Bk.all, Bk.ticked], rfl, rfl, by simp [Bk.on, h0, wrap64_is]⟩
theorem u8_nat {n : Int} (h : (Lit.int .u8 n).wf = true) : ∃ m : Nat, n = (m : Int) ∧ m < 256 := by
  obtain ⟨f, hf8⟩ := bytes_of_ints [n] (fun z hz => by simp only [List.mem_singleton] at hz; subst hz; exact h)
  cases f with
  | nil => simp at hf8
  | cons x r => simp at hf8; exact ⟨x.toNat, hf8.1, x.toNat_lt⟩
theorem count_to {F : Nat → Prop} {w : World} {p : Nat} {d : Bk.Disk} (hd : DiskAt F w p d) (C : Int) (hC : d.count = C) :
    Calls Tryd.prog 30 #[.pointer (some ⟨p, 0, none⟩)] w fun e w' => e = .returned (.int .i64 C) ∧ w = w' := by subst hC; exact count_is hd
theorem waiting_to {F : Nat → Prop} {w : World} {p : Nat} {d : Bk.Disk} (hd : DiskAt F w p d) (n : Nat) (hn : d.waiting.length = n) :
    Calls Tryd.prog 20 #[.pointer (some ⟨p, 0, none⟩)] w fun e w' => e = .returned (.int .i64 (n : Int)) ∧ w = w' := by subst hn; exact waiting_is hd
theorem fl_ok4 {n : Nat} {d : Bk.Disk} (h : Bk.Ok n d) (k : Nat) : Bk.Ok n (Bk.fl d k) := Bk.fl_ok h k
set_option maxRecDepth 100000 in
set_option maxHeartbeats 1000000 in
theorem blockFuses_walk (lv : Value) (acts : List BAct) (x : Nat) (hx : x < 256) (cut : Int) (w : World) (A : Nat → Addr) (hs : Sents w A) (ha : Acts w.heap.size w lv acts) :
    Calls Tryd.prog 7 #[lv, .int .u8 (x : Int), .int .i64 cut] w fun e w' => e = .returned (.bool true) ∧ Below w.heap.size w w' := by
  obtain ⟨aa, ac, rfl, hac, hacm, -⟩ := id ha.row
  unfold maxLen at hacm
  have HA := Lib.hid ha
  have HS := Lib.hid hs
  clear ha hs
  obtain ⟨D, hD⟩ : ∃ D, playK acts (min acts.length 40) = D := ⟨_, rfl⟩
  have hDo : Bk.Ok 40 D := hD ▸ (playK_ok acts _).mono (Nat.min_le_right _ _)
  have hbl : D.blocks = 8 := hD ▸ playK_blocks acts _
  have hsz : D.size = 256 := hD ▸ playK_size acts _
  obtain ⟨a, hae⟩ : ∃ a, x % 8 = a := ⟨_, rfl⟩
  have ha : a < 8 := by omega
  have htm : (x : Int).tmod 8 = (a : Int) := by rw [Int.tmod_eq_emod_of_nonneg (by omega)]; omega
  obtain ⟨M0, E, hM0, hcn, hfl, hoff, hE, hz, hnz⟩ := fuses_math D a ha cut
  have hM0o : Bk.Ok 40 M0 := by have := hDo.on.arm (a : Int) [] (-1) cut; rw [hM0] at this; exact this
  have hD1o : Bk.Ok 40 (Bk.on D) := hDo.on
  have hEo : Bk.Ok 40 E := by have := hD1o.flush; rw [hE] at this; exact this
  obtain ⟨D1, hD1⟩ : ∃ E, Bk.on D = E := ⟨_, rfl⟩
  rw [hD1] at hM0 hE hD1o
  have HD0 := Lib.hid hD
  have HDO := Lib.hid hDo
  have HON := Lib.hid hD1
  have HD1O := Lib.hid hD1o
  have HM0 := Lib.hid hM0
  have HM0O := Lib.hid hM0o
  have HCN := Lib.hid hcn
  have HFL := Lib.hid hfl
  have HOFF := Lib.hid hoff
  have HEE := Lib.hid hE
  have HEO := Lib.hid hEo
  have HZ := Lib.hid hz
  have HNZ := Lib.hid hnz
  have HBL := Lib.hid hbl
  have HSZ := Lib.hid hsz
  clear hD hDo hD1 hD1o hM0 hM0o hcn hfl hoff hE hEo hz hnz hbl hsz
  clear hae
  go_enter Tryd.func7, Tryd.ntmps7
  go_upto_region 1 with fail
  refine wp_name fun W hW => ?_
  have HB := Lib.hid (show Below w.heap.size w W by rw [hW]; exact Below.refl _ _)
  have HB0 := Lib.hid HB.out
  clear hW
  go_upto_region 2 with (go_at_call 21; (refine (played04_to w.heap.size _ acts D HD0.out _ HB.out.size (HA.out.below HB.out) A (HS.out.below HB.out)).mono ?_); (rintro e w11 ⟨⟨p1, v1, F1, G1, rfl, hd, hr, hF, hG, hGF, hFB⟩, hb⟩); (obtain ⟨lv2, wv2, kv2, xs1, ys1, rfl, h2⟩ := hr); (obtain ⟨la1, lc1, wa1, wc1, ka1, kc1, rfl, rfl, rfl⟩ := h2.shape); (have H1 := Lib.hid h2); (have HD1 := Lib.hid hd); (have HF1 := Lib.hid hF); (have HG1 := Lib.hid hG); (have HGF1 := Lib.hid hGF); (have HFB1 := Lib.hid hFB); (have HB1 := Lib.hid (below_step HB.out hb)); (have HBa1 := Lib.hid hb); (clear h2 hd hF hG hGF hFB hb); (unfold refD))
  refine wp_name fun V hV => ?_
  obtain ⟨nb1, hnb⟩ : ∃ nb, w11.heap.size = nb := ⟨_, rfl⟩
  have hvb : BoxAt V nb1 [.int .i64 (D.blocks : Int), .int .i64 (D.size : Int), .slice la1 xs1.length lc1, .slice wa1 ys1.length wc1, .bool D.lit, .int .i64 D.after, .int .i64 D.torn, .int .i64 D.cut, .slice ka1 D.keep.length kc1, .bool D.off, .int .i64 D.count] ∧ Below w11.heap.size w11 V := by
    rw [hV]
    exact ⟨BoxAt.newAt _ _ hnb [_, _, _, _, _, _, _, _, _, _, _] _, (Below.refl _ _).alloc (Nat.le_refl _) _⟩
  have HX1 := Lib.hid hvb.1
  have HBX1 := Lib.hid hvb.2
  have HBV1 := Lib.hid (below_step HB1.out hvb.2)
  have HDV1 := Lib.hid (HD1.out.below HF1.out hvb.2)
  have HFV1 := Lib.hid (HF1.out.more hvb.2.size)
  have HV1 := Lib.hid (H1.out.below HG1.out hvb.2)
  have HGV1 := Lib.hid (HG1.out.more hvb.2.size)
  have HFBw := Lib.hid (show ∀ k, F1 k → w.heap.size ≤ k from fun k hk => by have := HFB1.out k hk; have := HB.out.size; omega)
  have hnF : ¬ F1 nb1 := fun h => by have := HF1.out _ h; omega
  have hnG : ¬ G1 nb1 := fun h => by have := HG1.out _ h; omega
  have HNF1 := Lib.hid hnF
  have HNG1 := Lib.hid hnG
  have HNB1 := Lib.hid (show W.heap.size ≤ nb1 by rw [← hnb]; exact HBa1.out.size)
  rw [hnb]
  clear hV hvb hnF hnG
  clear hnb
  have hwV := HBV1.out.size
  go_upto_region 5 with (go_at_call 22; (refine (on_to HDV1.out HON.out).mono ?_); (rintro e w4 ⟨⟨u4, rfl⟩, hd4, hb4⟩); (have HD4 := Lib.hid hd4); (have HB4 := Lib.hid hb4); (have HX4 := Lib.hid (HX1.out.beside hb4 HNF1.out)); (have HR4 := Lib.hid (HV1.out.beside hb4 HGV1.out HGF1.out)); (have HG4 := Lib.hid (show Held G1 w4 from fun k hk => Nat.lt_of_lt_of_le (HGV1.out k hk) hb4.size)); (have HF4 := Lib.hid (show Held F1 w4 from fun k hk => Nat.lt_of_lt_of_le (HFV1.out k hk) hb4.size)); (have HBW4 := Lib.hid (HBV1.out.trans (hb4.below HFBw.out hwV))); (clear hd4 hb4))
  go_upto_region 7 with (go_at_call 29; (refine (arm_to HD4.out HF4.out (a : Int) (-1) cut _ [] (RowAt.nil _ _) (by simp) HM0.out A (HS.out.below HBW4.out)).mono ?_); (rintro e w5 h5); (obtain ⟨F5, rfl, hd5, hb5, hg5⟩ := h5.ok); (have HI := Lib.hid (FuseI.next HF4.out HFBw.out HGF1.out HNF1.out HBW4.out HX4.out HR4.out HG4.out hd5 hb5 hg5)); (clear h5 hd5 hb5 hg5))
  obtain ⟨C, hC⟩ : ∃ C, D.count = C := ⟨_, rfl⟩
  have hc5 : M0.count = C := HCN.out.trans hC
  have HC := Lib.hid hC
  have HC5 := Lib.hid hc5
  clear hC hc5
  obtain ⟨F5, hd5, hF5, hFw5, hGF5, hnF5, hb5, hx5, hr5, hG5⟩ := HI.out
  have HD5 := Lib.hid hd5
  clear hd5 hF5 hFw5 hGF5 hnF5 hb5 hx5 hr5 hG5
  go_upto_region 8 with (go_at_call 30; (refine (count_to HD5.out C HC5.out).mono ?_); (rintro e w6 ⟨rfl, rfl⟩))
  go_wp2_with fail
  go_loopw [10, 11] (fun dn i wr => ∃ k : Nat, k ≤ 10 ∧ i = .int .i64 (k : Int) ∧ dn = .int .i64 ((min k a : Nat) : Int) ∧ FuseI w wr p1 nb1 (Bk.fl M0 k) D G1 (.slice la1 xs1.length lc1) (.slice wa1 ys1.length wc1) (.slice ka1 D.keep.length kc1) xs1 ys1) (fun dn i _ => 10 - (intOf i).toNat)
  case atStart => exact ⟨0, by omega, rfl, by rw [Nat.zero_min]; rfl, HI.out⟩
  case round =>
    obtain ⟨k, hk, rfl, rfl, F, hd, hF, hFw, hGF, hnF, hb, hx, hr, hG⟩ := hrel
    obtain ⟨M, hM⟩ : ∃ M, Bk.fl M0 k = M := ⟨_, rfl⟩
    have hMo := fl_ok4 HM0O.out k
    rw [hM] at hd hMo
    have HD := Lib.hid hd
    have HF := Lib.hid hF
    have HFW := Lib.hid hFw
    have HGF := Lib.hid hGF
    have HNF := Lib.hid hnF
    have HB := Lib.hid hb
    have HX := Lib.hid hx
    have HR := Lib.hid hr
    have HG := Lib.hid hG
    have HM := Lib.hid hM
    have HMO := Lib.hid hMo
    have hbs := hb.size
    clear hd hF hFw hGF hnF hb hx hr hG hM hMo
    by_cases hlt : k < 10
    · have hlt1 : (k : Int) < 10 := by omega
      obtain ⟨M1, hM1⟩ : ∃ M1, Bk.fl M0 (k + 1) = M1 := ⟨_, rfl⟩
      by_cases hka : k < a
      · have hfe : Bk.flush M = (M1, 0) := by have := HFL.out k; rw [HM.out, hM1, if_pos hka] at this; exact this
        have HFE := Lib.hid hfe
        have HM1 := Lib.hid hM1
        have hmk : min k a = k := by omega
        rw [hmk]
        clear hfe hM1 hmk
        go_wp2_with (go_at_call 25; (refine (flush_to HD.out HMO.out HF.out HFE.out A (fun wx hx => HS.out.below (HB.out.trans (hx.below HFW.out hbs)))).mono ?_); (rintro e w7 h7); (obtain ⟨F7, rfl, hd7, hb7, hg7⟩ := h7.ok); (have HN := Lib.hid (FuseI.next HF.out HFW.out HGF.out HNF.out HB.out HX.out HR.out HG.out hd7 hb7 hg7)); (clear h7 hd7 hb7 hg7))
        go_roundw
        case rel => exact ⟨k + 1, by omega, by go_num, by rw [show min (k + 1) a = k + 1 by omega]; go_num, by rw [HM1.out]; exact HN.out⟩
        case measure => simp [intOf]; omega
      · have hfe : Bk.flush M = (M1, 7) := by have := HFL.out k; rw [HM.out, hM1, if_neg hka] at this; exact this
        have hof : M1.off = true := by rw [← hM1]; exact HOFF.out k (by omega)
        have HFE := Lib.hid hfe
        have HM1 := Lib.hid hM1
        have HOF := Lib.hid hof
        have hmk : min k a = a := by omega
        rw [hmk]
        clear hfe hM1 hof hmk
        go_wp2_with (first
          | (go_at_call 25; (refine (flush_to HD.out HMO.out HF.out HFE.out A (fun wx hx => HS.out.below (HB.out.trans (hx.below HFW.out hbs)))).mono ?_); (rintro e w7 ⟨F7, l7, v7, rfl, hE7, hd7, hb7, hg7⟩); (obtain ⟨t7, x7, rfl⟩ := hE7.iface (by decide)); (have HE7 := Lib.hid hE7); (have HD7 := Lib.hid hd7); (have HS7 := Lib.hid (HS.out.below (HB.out.trans (hb7.below HFW.out hbs)))); (have HN := Lib.hid (FuseI.next HF.out HFW.out HGF.out HNF.out HB.out HX.out HR.out HG.out hd7 hb7 hg7)); (clear hE7 hd7 hb7 hg7))
          | (go_at_call 16; (refine (tells04_any HS7.out l7 7 _ HE7.out 7 rfl).mono ?_); (rintro e w8 ⟨rfl, rfl⟩))
          | (go_at_call 31; (refine (off_is HD7.out true HOF.out).mono ?_); (rintro e w9 ⟨rfl, rfl⟩)))
        go_roundw
        case rel => exact ⟨k + 1, by omega, by go_num, by rw [show min (k + 1) a = a by omega], by rw [HM1.out]; exact HN.out⟩
        case measure => simp [intOf]; omega
    · obtain rfl : k = 10 := by omega
      have hmk : min 10 a = a := by omega
      rw [hmk]
      obtain ⟨EF, hEF⟩ : ∃ EF, Bk.on M = EF := ⟨_, rfl⟩
      have hEFo : Bk.Ok 40 EF := hEF ▸ HMO.out.on
      have hz' := HZ.out
      have hnz' := HNZ.out
      rw [HM.out, hEF] at hz' hnz'
      have HEF := Lib.hid hEF
      have HEFO := Lib.hid hEFo
      have HZ' := Lib.hid hz'
      have HNZ' := Lib.hid hnz'
      clear hmk hEF hEFo hz' hnz' hlt hk
      go_upto_region 18 with (go_at_call 22; (refine (on_to HD.out HEF.out).mono ?_); (rintro e w7 ⟨⟨u7, rfl⟩, hd7, hb7⟩); (have HD7 := Lib.hid hd7); (have HB7 := Lib.hid hb7); (have HX7 := Lib.hid (HX.out.beside hb7 HNF.out)); (have HR7 := Lib.hid (HR.out.beside hb7 HG.out HGF.out)); (have HG7 := Lib.hid (show Held G1 w7 from fun k hk => Nat.lt_of_lt_of_le (HG.out k hk) hb7.size)); (have HF7 := Lib.hid (show Held F w7 from fun k hk => Nat.lt_of_lt_of_le (HF.out k hk) hb7.size)); (have HBW7 := Lib.hid (HB.out.trans (hb7.below HFW.out hbs))); (clear hd7 hb7))
      have hrr := HR7.out.at
      unfold refD at hrr
      have HRR := Lib.hid hrr
      clear hrr
      obtain ⟨x0, x1, x2, x3, x4, x5, x6, x7, x8, x9, x10⟩ := HX7.out.eleven
      obtain ⟨fx0, fx1, fx2, fx3, fx4, fx5, fx6, fx7, fx8, fx9, fx10⟩ := HX7.out.elevenF
      go_upto_region 19 with (first
        | (go_at_call 23; (refine (refFlush4_to HR8.out HD1O.out HG8.out HEE.out).mono ?_); (rintro e w9 ⟨⟨v9, rfl, hr9⟩, hb9⟩); (obtain ⟨lv6, wv6, kv6, xs6, ys6, rfl, h6⟩ := hr9); (obtain ⟨la6, lc6, wa6, wc6, ka6, kc6, rfl, rfl, rfl⟩ := h6.shape); (have H6 := Lib.hid h6); (have HB9x := Lib.hid hb9); (have HX9 := Lib.hid (HX8.out.below hb9)); (clear h6 hb9 x0 x1 x2 x3 x4 x5 x6 x7 x8 x9 x10 fx0 fx1 fx2 fx3 fx4 fx5 fx6 fx7 fx8 fx9 fx10); (obtain ⟨x0, x1, x2, x3, x4, x5, x6, x7, x8, x9, x10⟩ := HX9.out.eleven); (obtain ⟨fx0, fx1, fx2, fx3, fx4, fx5, fx6, fx7, fx8, fx9, fx10⟩ := HX9.out.elevenF); (unfold refD))
        | (go_at_call 24; (refine (refOn4_to HRR.out HG7.out HON.out).mono ?_); (rintro e w8 ⟨⟨v8, rfl, hr8⟩, hb8⟩); (have HR8 := Lib.hid hr8); (have HB8x := Lib.hid hb8); (have HG8 := Lib.hid (More.held HG7.out hb8.size)); (have HX8 := Lib.hid (HX7.out.below hb8)); (clear hr8 hb8 x0 x1 x2 x3 x4 x5 x6 x7 x8 x9 x10 fx0 fx1 fx2 fx3 fx4 fx5 fx6 fx7 fx8 fx9 fx10); (obtain ⟨x0, x1, x2, x3, x4, x5, x6, x7, x8, x9, x10⟩ := HX8.out.eleven); (obtain ⟨fx0, fx1, fx2, fx3, fx4, fx5, fx6, fx7, fx8, fx9, fx10⟩ := HX8.out.elevenF)))
      refine wp_name fun U hU => ?_
      have hfu := fill11 HX9.out (.int .i64 (E.blocks : Int)) (.int .i64 (E.size : Int)) (.slice la6 xs6.length lc6) (.slice wa6 ys6.length wc6) (.bool E.lit) (.int .i64 E.after) (.int .i64 E.torn) (.int .i64 E.cut) (.slice ka6 E.keep.length kc6) (.bool E.off) (.int .i64 E.count)
      rw [← hU] at hfu
      have hs8 : w7.heap.size ≤ w8.heap.size := HB8x.out.size
      have hs9 : w8.heap.size ≤ w9.heap.size := HB9x.out.size
      have hsU : w9.heap.size ≤ U.heap.size := hfu.2.size
      have hnb7 : nb1 < w7.heap.size := HX7.out.lt
      have hnbw : w.heap.size ≤ nb1 := by have := HNB1.out; have := HB0.out.size; omega
      have hGm : ∀ k, More (More G1 w7 w8) w8 w9 k → k ≠ nb1 ∧ ¬ F k ∧ k < w9.heap.size := fun k hk => by
        rcases hk with (h | h) | h
        · exact ⟨fun e => HNG1.out (e ▸ h), HGF.out k h, by have := HG7.out k h; omega⟩
        · exact ⟨by omega, fun hf => by have := HF7.out k hf; omega, by omega⟩
        · exact ⟨by omega, fun hf => by have := HF7.out k hf; omega, by omega⟩
      have HXU := Lib.hid (show BoxAt U nb1 [.int .i64 (E.blocks : Int), .int .i64 (E.size : Int), .slice la6 xs6.length lc6, .slice wa6 ys6.length wc6, .bool E.lit, .int .i64 E.after, .int .i64 E.torn, .int .i64 E.cut, .slice ka6 E.keep.length kc6, .bool E.off, .int .i64 E.count] from hfu.1)
      have hb79 : Below w7.heap.size w7 w9 := below_step HB8x.out HB9x.out
      have HDU := Lib.hid (show DiskAt F U p1 EF from (HD7.out.below HF7.out hb79).on fun k hk => hfu.2.block k (by have := HF7.out k hk; omega) (by intro e; cases e; exact HNF.out hk))
      have HFU := Lib.hid (show Held F U from fun k hk => by have := HF7.out k hk; omega)
      have HRU := Lib.hid (show DiskR (More (More G1 w7 w8) w8 w9) U E (.slice la6 xs6.length lc6) (.slice wa6 ys6.length wc6) (.slice ka6 E.keep.length kc6) xs6 ys6 from H6.out.on fun k hk => hfu.2.block k (hGm k hk).2.2 (by intro e; cases e; exact (hGm _ hk).1 rfl))
      have HGU := Lib.hid (show Held (More (More G1 w7 w8) w8 w9) U from fun k hk => by have := (hGm k hk).2.2; omega)
      have HGN := Lib.hid (show ∀ k, More (More G1 w7 w8) w8 w9 k → k ≠ nb1 from fun k hk => (hGm k hk).1)
      have HBU := Lib.hid (show Below w.heap.size w U from (HBW7.out.trans (hb79.mono (by have := HBW7.out.size; omega))).grown hfu.2 (by have := HBW7.out.size; omega) (by intro k hk; cases hk; omega))
      clear hU hfu hGm hb79 x0 x1 x2 x3 x4 x5 x6 x7 x8 x9 x10 fx0 fx1 fx2 fx3 fx4 fx5 fx6 fx7 fx8 fx9 fx10
      by_cases ha0 : a = 0
      · subst ha0
        obtain ⟨hz1, hz2⟩ := HZ'.out rfl
        have HZ1 := Lib.hid (hz1.trans HC.out)
        have HZ2 := Lib.hid hz2
        clear hz1 hz2
        go_wp2_with (first
          | (go_at_call 30; (refine (count_to HDU.out C HZ1.out).mono ?_); (rintro e wa ⟨rfl, rfl⟩))
          | (go_at_call 20; (refine (waiting_to HDU.out 0 HZ2.out).mono ?_); (rintro e wa ⟨rfl, rfl⟩))
          | (go_at_call 17; (refine (awake04_any _ A (HS.out.below HBU.out)).mono ?_); (rintro e wb ⟨rfl, hb⟩); (have HBZ := Lib.hid (below_step HBU.out hb)); (clear hb)))
        go_ret
        exact ⟨rfl, HBZ.out⟩
      · have hane : ((a : Int) == 0) = false := by simpa using ha0
        obtain ⟨x0, x1, x2, x3, x4, x5, x6, x7, x8, x9, x10⟩ := HXU.out.eleven
        obtain ⟨fx0, fx1, fx2, fx3, fx4, fx5, fx6, fx7, fx8, fx9, fx10⟩ := HXU.out.elevenF
        have hob := HNZ'.out ha0
        rw [HC.out] at hob
        have HOB := Lib.hid hob
        clear hob
        go_upto_region 22 with fail
        refine wp_name fun T hT => ?_
        have hgt : U.grownBy T (some nb1) := by rw [hT]; exact grownBy_set (World.grownBy.refl _ _) _ _
        have HXT := Lib.hid (show BoxAt T nb1 [.int .i64 (E.blocks : Int), .int .i64 (E.size : Int), .slice la6 xs6.length lc6, .slice wa6 ys6.length wc6, .bool E.lit, .int .i64 E.after, .int .i64 E.torn, .int .i64 E.cut, .slice ka6 E.keep.length kc6, .bool E.off, .int .i64 (wrap64 (C + (a : Int)))] by rw [hT]; exact HXU.out.put 10 _)
        have HDT := Lib.hid (show DiskAt F T p1 EF from HDU.out.on fun k hk => hgt.block k (HFU.out k hk) (by intro e; cases e; exact HNF.out hk))
        have HRT := Lib.hid ((HRU.out.on fun k hk => hgt.block k (HGU.out k hk) (by intro e; cases e; exact HGN.out _ hk rfl)).as (d' := { E with count := wrap64 (C + (a : Int)) }) rfl rfl rfl)
        have HFT := Lib.hid (HFU.out.more hgt.size)
        have HGT := Lib.hid (HGU.out.more hgt.size)
        have HBT := Lib.hid (HBU.out.grown hgt HBU.out.size (by intro k hk; cases hk; omega))
        have HEO' := Lib.hid (show Bk.Ok 40 { E with count := wrap64 (C + (a : Int)) } from ⟨HEO.out.b, HEO.out.s, HEO.out.len, HEO.out.each, HEO.out.wait, HEO.out.many⟩)
        clear hT hgt x0 x1 x2 x3 x4 x5 x6 x7 x8 x9 x10 fx0 fx1 fx2 fx3 fx4 fx5 fx6 fx7 fx8 fx9 fx10
        obtain ⟨x0, x1, x2, x3, x4, x5, x6, x7, x8, x9, x10⟩ := HXT.out.eleven
        have hrr8 := HRT.out.at
        unfold refD at hrr8
        have HRR8 := Lib.hid hrr8
        clear hrr8
        go_wp2_with (first
    | (go_at_call 27; (refine (all04_any HDT.out HEFO.out HOB.out HRR8.out HFT.out HGT.out HEO'.out A (HS.out.below HBT.out)).mono ?_); (rintro e w8 ⟨rfl, hb8⟩); (have HB8 := Lib.hid (below_step HBT.out hb8)); (clear hb8))
    | (go_at_call 17; (refine (awake04_any _ A (HS.out.below HB8.out)).mono ?_); (rintro e w9 ⟨rfl, hb9⟩); (have HB9 := Lib.hid (below_step HB8.out hb9)); (clear hb9)))
        go_ret
        exact ⟨rfl, HB9.out⟩
end Go.Proofs.YtflbioiildndoaaDoor

