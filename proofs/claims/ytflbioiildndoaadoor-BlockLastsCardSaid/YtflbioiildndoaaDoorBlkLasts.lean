/- the statement BlockLasts: its walk (printed by wip/tools/gen_laws04.py) -/
import Derived.Test.YtflbioiildndoaaDoorBlkPlay
import Derived.Test.YtflbioiildndoaaDoorBlkSame
import Derived.Test.YtflbioiildndoaaDoorBlkLawMath
namespace Go.Proofs.YtflbioiildndoaaDoor
open Go.RowKit
set_option linter.unusedVariables false
set_option linter.unusedSimpArgs false

/-- behind a flush of a disk whose power is on, and a crash -/
theorem lasts_math (D : Bk.Disk) : ∃ E, Bk.flush (Bk.on D) = (E, 0) ∧ ∀ keep which cut, Obs (Bk.crash E keep which cut) E := by
  refine ⟨Bk.all (Bk.ticked (Bk.on D)), ?_, fun keep which cut => ?_⟩
  · unfold Bk.flush
    rw [if_neg (by simp [Bk.on]), if_neg (by unfold Bk.blows; simp [Bk.on])]
  · refine ⟨rfl, ?_, rfl, rfl, rfl⟩
    show Bk.crashK keep which cut [] _ 0 = _
    rfl
set_option maxRecDepth 100000 in
set_option maxHeartbeats 1000000 in
theorem blockLasts_walk (lv : Value) (acts : List BAct) (ka : Option Addr) (keep : List Bool) (kc : Nat) (a0 a1 : Int) (w : World) (A : Nat → Addr) (hs : Sents w A) (ha : Acts w.heap.size w lv acts) (hkp : RowAt eBool w (.slice ka keep.length kc) keep) :
    Calls Tryd.prog 4 #[lv, .slice ka keep.length kc, .agg #[.int .i64 a0, .int .i64 a1]] w fun e w' => e = .returned (.bool true) ∧ Below w.heap.size w w' := by
  obtain ⟨aa, ac, rfl, hac, hacm, -⟩ := id ha.row
  unfold maxLen at hacm
  have HA := Lib.hid ha
  have HS := Lib.hid hs
  clear ha hs
  have HKP := Lib.hid hkp
  clear hkp
  obtain ⟨D, hD⟩ : ∃ D, playK acts (min acts.length 40) = D := ⟨_, rfl⟩
  have hDo : Bk.Ok 40 D := hD ▸ (playK_ok acts _).mono (Nat.min_le_right _ _)
  have hbl : D.blocks = 8 := hD ▸ playK_blocks acts _
  have hsz : D.size = 256 := hD ▸ playK_size acts _
  obtain ⟨D1, hD1⟩ : ∃ E, Bk.on D = E := ⟨_, rfl⟩
  obtain ⟨E, hE, hobs⟩ := lasts_math D
  rw [hD1] at hE
  have hD1o : Bk.Ok 40 D1 := hD1 ▸ hDo.on
  have hEo : Bk.Ok 40 E := by have := hD1o.flush; rw [hE] at this; exact this
  obtain ⟨E2, hE2⟩ : ∃ E2, Bk.crash E keep a0 a1 = E2 := ⟨_, rfl⟩
  have hE2o : Bk.Ok 0 E2 := hE2 ▸ hEo.crash _ _ _
  have hob : Obs E2 E := hE2 ▸ hobs keep a0 a1
  have HD0 := Lib.hid hD
  have HDO := Lib.hid hDo
  have HON := Lib.hid hD1
  have HD1O := Lib.hid hD1o
  have HEE := Lib.hid hE
  have HEO := Lib.hid hEo
  have HE2 := Lib.hid hE2
  have HE2O := Lib.hid hE2o
  have HOB := Lib.hid hob
  have HBL := Lib.hid hbl
  have HSZ := Lib.hid hsz
  clear hD hDo hD1 hD1o hE hEo hE2 hE2o hob hbl hsz
  clear hobs
  go_enter Tryd.func4, Tryd.ntmps4
  go_upto_region 1 with fail
  refine wp_name fun W hW => ?_
  have HY := Lib.hid (show BoxAt W w.heap.size [.int .i64 a0, .int .i64 a1] by rw [hW]; exact BoxAt.new w [_, _] _)
  have HB := Lib.hid (show Below w.heap.size w W by rw [hW]; go_grown)
  clear hW
  go_upto_region 2 with (go_at_call 21; (refine (played04_to w.heap.size _ acts D HD0.out _ HB.out.size (HA.out.below HB.out) A (HS.out.below HB.out)).mono ?_); (rintro e w11 ⟨⟨p1, v1, F1, G1, rfl, hd, hr, hF, hG, hGF, hFB⟩, hb⟩); (obtain ⟨lv2, wv2, kv2, xs1, ys1, rfl, h2⟩ := hr); (obtain ⟨la1, lc1, wa1, wc1, ka1, kc1, rfl, rfl, rfl⟩ := h2.shape); (have H1 := Lib.hid h2); (have HD1 := Lib.hid hd); (have HF1 := Lib.hid hF); (have HG1 := Lib.hid hG); (have HGF1 := Lib.hid hGF); (have HFB1 := Lib.hid hFB); (have HB1 := Lib.hid (below_step HB.out hb)); (have HBa1 := Lib.hid hb); (clear h2 hd hF hG hGF hFB hb); (unfold refD))
  refine wp_name fun V hV => ?_
  obtain ⟨nb1, hnb⟩ : ∃ nb, w11.heap.size = nb := ⟨_, rfl⟩
  have hvb : BoxAt V nb1 [.int .i64 (D.blocks : Int), .int .i64 (D.size : Int), .slice la1 xs1.length lc1, .slice wa1 ys1.length wc1, .bool D.lit, .int .i64 D.after, .int .i64 D.torn, .int .i64 D.cut, .slice ka1 D.keep.length kc1, .bool D.off, .int .i64 D.count] ∧ Below w11.heap.size w11 V := by
    rw [hV]
    exact ⟨BoxAt.newAt _ _ hnb [_, _, _, _, _, _, _, _, _, _, _] _, (Below.refl _ _).alloc (Nat.le_refl _) _⟩
  have HX1 := Lib.hid hvb.1
  have HBX1 := Lib.hid hvb.2
  have HBV1 := Lib.hid (below_step HB1.out hvb.2)
  have HDV1 := Lib.hid (HD1.out.below HF1.out hvb.2)
  have HFV1 := Lib.hid (HF1.out.more hvb.2.size)
  have HV1 := Lib.hid (H1.out.below HG1.out hvb.2)
  have HGV1 := Lib.hid (HG1.out.more hvb.2.size)
  have HFBw := Lib.hid (show ∀ k, F1 k → w.heap.size ≤ k from fun k hk => by have := HFB1.out k hk; have := HB.out.size; omega)
  have hnF : ¬ F1 nb1 := fun h => by have := HF1.out _ h; omega
  have hnG : ¬ G1 nb1 := fun h => by have := HG1.out _ h; omega
  have HNF1 := Lib.hid hnF
  have HNG1 := Lib.hid hnG
  have HNB1 := Lib.hid (show W.heap.size ≤ nb1 by rw [← hnb]; exact HBa1.out.size)
  rw [hnb]
  clear hV hvb hnF hnG
  clear hnb
  have hwV := HBV1.out.size
  have hwlt : w.heap.size < W.heap.size := HY.out.lt
  go_upto_region 5 with (go_at_call 22; (refine (on_to HDV1.out HON.out).mono ?_); (rintro e w4 ⟨⟨u4, rfl⟩, hd4, hb4⟩); (have HD4 := Lib.hid hd4); (have HB4 := Lib.hid hb4); (have HX4 := Lib.hid (HX1.out.beside hb4 HNF1.out)); (have HR4 := Lib.hid (HV1.out.beside hb4 HGV1.out HGF1.out)); (have HG4 := Lib.hid (show Held G1 w4 from fun k hk => Nat.lt_of_lt_of_le (HGV1.out k hk) hb4.size)); (have HF4 := Lib.hid (show Held F1 w4 from fun k hk => Nat.lt_of_lt_of_le (HFV1.out k hk) hb4.size)); (have HBW4 := Lib.hid (HBV1.out.trans (hb4.below HFBw.out hwV))); (clear hd4 hb4))
  have hrr := HR4.out.at
  unfold refD at hrr
  have HRR := Lib.hid hrr
  clear hrr
  obtain ⟨x0, x1, x2, x3, x4, x5, x6, x7, x8, x9, x10⟩ := HX4.out.eleven
  obtain ⟨fx0, fx1, fx2, fx3, fx4, fx5, fx6, fx7, fx8, fx9, fx10⟩ := HX4.out.elevenF
  go_upto_region 6 with (first
    | (go_at_call 23; (refine (refFlush4_to HR5.out HD1O.out HG5.out HEE.out).mono ?_); (rintro e w6 ⟨⟨v6, rfl, hr6⟩, hb6⟩); (obtain ⟨lv6, wv6, kv6, xs6, ys6, rfl, h6⟩ := hr6); (obtain ⟨la6, lc6, wa6, wc6, ka6, kc6, rfl, rfl, rfl⟩ := h6.shape); (have H6 := Lib.hid h6); (have HB6 := Lib.hid hb6); (have HX6 := Lib.hid (HX5.out.below hb6)); (clear h6 hb6 x0 x1 x2 x3 x4 x5 x6 x7 x8 x9 x10 fx0 fx1 fx2 fx3 fx4 fx5 fx6 fx7 fx8 fx9 fx10); (obtain ⟨x0, x1, x2, x3, x4, x5, x6, x7, x8, x9, x10⟩ := HX6.out.eleven); (obtain ⟨fx0, fx1, fx2, fx3, fx4, fx5, fx6, fx7, fx8, fx9, fx10⟩ := HX6.out.elevenF); (unfold refD))
    | (go_at_call 24; (refine (refOn4_to HRR.out HG4.out HON.out).mono ?_); (rintro e w5 ⟨⟨v5, rfl, hr5⟩, hb5⟩); (have HR5 := Lib.hid hr5); (have HB5 := Lib.hid hb5); (have HG5 := Lib.hid (More.held HG4.out hb5.size)); (have HX5 := Lib.hid (HX4.out.below hb5)); (clear hr5 hb5 x0 x1 x2 x3 x4 x5 x6 x7 x8 x9 x10 fx0 fx1 fx2 fx3 fx4 fx5 fx6 fx7 fx8 fx9 fx10); (obtain ⟨x0, x1, x2, x3, x4, x5, x6, x7, x8, x9, x10⟩ := HX5.out.eleven); (obtain ⟨fx0, fx1, fx2, fx3, fx4, fx5, fx6, fx7, fx8, fx9, fx10⟩ := HX5.out.elevenF)))
  refine wp_name fun U hU => ?_
  have hfu := fill11 HX6.out (.int .i64 (E.blocks : Int)) (.int .i64 (E.size : Int)) (.slice la6 xs6.length lc6) (.slice wa6 ys6.length wc6) (.bool E.lit) (.int .i64 E.after) (.int .i64 E.torn) (.int .i64 E.cut) (.slice ka6 E.keep.length kc6) (.bool E.off) (.int .i64 E.count)
  rw [← hU] at hfu
  have hs5 : w4.heap.size ≤ w5.heap.size := HB5.out.size
  have hs6 : w5.heap.size ≤ w6.heap.size := HB6.out.size
  have hsU : w6.heap.size ≤ U.heap.size := hfu.2.size
  have hs4 : V.heap.size ≤ w4.heap.size := HB4.out.size
  have hnb4 : nb1 < w4.heap.size := HX4.out.lt
  have hnbw : w.heap.size < nb1 := by have := HNB1.out; omega
  have hGm : ∀ k, More (More G1 w4 w5) w5 w6 k → k ≠ nb1 ∧ ¬ F1 k ∧ k < w6.heap.size := fun k hk => by
    rcases hk with (h | h) | h
    · exact ⟨fun e => HNG1.out (e ▸ h), HGF1.out k h, by have := HG4.out k h; omega⟩
    · exact ⟨by omega, fun hf => by have := HF4.out k hf; omega, by omega⟩
    · exact ⟨by omega, fun hf => by have := HF4.out k hf; omega, by omega⟩
  have HXU := Lib.hid hfu.1
  have hb46 : Below w4.heap.size w4 w6 := below_step HB5.out HB6.out
  have HDU := Lib.hid (show DiskAt F1 U p1 D1 from (HD4.out.below HF4.out hb46).on fun k hk => hfu.2.block k (by have := HF4.out k hk; omega) (by intro e; cases e; exact HNF1.out hk))
  have HFU := Lib.hid (show Held F1 U from fun k hk => by have := HF4.out k hk; omega)
  have HRU := Lib.hid (show DiskR (More (More G1 w4 w5) w5 w6) U E (.slice la6 xs6.length lc6) (.slice wa6 ys6.length wc6) (.slice ka6 E.keep.length kc6) xs6 ys6 from H6.out.on fun k hk => hfu.2.block k (hGm k hk).2.2 (by intro e; cases e; exact (hGm _ hk).1 rfl))
  have HGU := Lib.hid (show Held (More (More G1 w4 w5) w5 w6) U from fun k hk => by have := (hGm k hk).2.2; omega)
  have HGFU := Lib.hid (show ∀ k, More (More G1 w4 w5) w5 w6 k → ¬ F1 k from fun k hk => (hGm k hk).2.1)
  have HBU := Lib.hid (show Below w.heap.size w U from (HBW4.out.trans (hb46.mono (by have := HBW4.out.size; omega))).grown hfu.2 (by have := HBW4.out.size; omega) (by intro k hk; cases hk; omega))
  have HYU := Lib.hid (show BoxAt U w.heap.size [.int .i64 a0, .int .i64 a1] from ((((HY.out.below HBa1.out).below HBX1.out).beside HB4.out (fun h => by have := HFB1.out _ h; omega)).below hb46).grownR hfu.2 (by simp; omega))
  clear hU hfu hGm hb46 x0 x1 x2 x3 x4 x5 x6 x7 x8 x9 x10 fx0 fx1 fx2 fx3 fx4 fx5 fx6 fx7 fx8 fx9 fx10
  obtain ⟨x0, x1, x2, x3, x4, x5, x6, x7, x8, x9, x10⟩ := HXU.out.eleven
  obtain ⟨y0, y1⟩ := HYU.out.two
  have hsU2 := HBU.out.size
  go_upto_region 8 with (first
    | (go_at_call 26; (refine (crash_to HD7.out HEO.out HG7.out.held _ keep (HKP.out.below HBW7.out) (HKF.out.imp id fun h k hk hf => by have := HF7B.out k hf; have := h k hk; omega) a0 a1 HE2.out A).mono ?_); (rintro e w8 h8); (obtain ⟨F8, rfl, hd8, hb8, hg8⟩ := h8.ok); (have HD8 := Lib.hid hd8); (have HB8x := Lib.hid hb8); (have HG8 := Lib.hid hg8); (have HBW8 := Lib.hid (HBW7.out.trans (hb8.below HF7B.out HBW7.out.size))); (have HX8 := Lib.hid (HX7.out.beside hb8 HNF7.out)); (have HR8 := Lib.hid (HR7.out.beside hb8 HG7'.out HGF7.out)); (have HG8' := Lib.hid (show Held (More (More G1 w4 w5) w5 w6) w8 from fun k hk => Nat.lt_of_lt_of_le (HG7'.out k hk) hb8.size)); (clear h8 hd8 hb8 hg8 x0 x1 x2 x3 x4 x5 x6 x7 x8 x9 x10 y0 y1); (obtain ⟨x0, x1, x2, x3, x4, x5, x6, x7, x8, x9, x10⟩ := HX8.out.eleven))
    | (go_at_call 25; (refine (flush_to HDU.out HD1O.out HFU.out HEE.out A (fun wx hx => HS.out.below (HBU.out.trans (hx.below HFBw.out hsU2)))).mono ?_); (rintro e w7 h7); (obtain ⟨F7, rfl, hd7, hb7, hg7⟩ := h7.ok); (have HD7 := Lib.hid hd7); (have HB7 := Lib.hid hb7); (have HG7 := Lib.hid hg7); (have HF7B := Lib.hid (hg7.ge HFBw.out hsU2)); (have HBW7 := Lib.hid (HBU.out.trans (hb7.below HFBw.out hsU2))); (have HX7 := Lib.hid (HXU.out.beside hb7 HNF1.out)); (have HY7 := Lib.hid (HYU.out.beside hb7 (fun h => by have := HFB1.out _ h; omega))); (have HR7 := Lib.hid (HRU.out.beside hb7 HGU.out HGFU.out)); (have HG7' := Lib.hid (show Held (More (More G1 w4 w5) w5 w6) w7 from fun k hk => Nat.lt_of_lt_of_le (HGU.out k hk) hb7.size)); (have HGF7 := Lib.hid (hg7.apart HGU.out HGFU.out)); (have HNF7 := Lib.hid (show ¬ F7 nb1 from fun h => by rcases (hg7 _ h).1 with h1 | h1; exact HNF1.out h1; (have := HXU.out.lt; omega))); (have HKF := Lib.hid (HKP.out.held (fun x => by simp))); (clear h7 hd7 hb7 hg7 x0 x1 x2 x3 x4 x5 x6 x7 x8 x9 x10 y0 y1); (obtain ⟨x0, x1, x2, x3, x4, x5, x6, x7, x8, x9, x10⟩ := HX7.out.eleven); (obtain ⟨y0, y1⟩ := HY7.out.two)))
  have hrr8 := HR8.out.at
  unfold refD at hrr8
  have HRR8 := Lib.hid hrr8
  clear hrr8
  go_wp2_with (first
    | (go_at_call 27; (refine (all04_any HD8.out HE2O.out HOB.out HRR8.out HG8.out.held HG8'.out HEO.out A (HS.out.below HBW8.out)).mono ?_); (rintro e w8 ⟨rfl, hb8⟩); (have HB8 := Lib.hid (below_step HBW8.out hb8)); (clear hb8))
    | (go_at_call 17; (refine (awake04_any _ A (HS.out.below HB8.out)).mono ?_); (rintro e w9 ⟨rfl, hb9⟩); (have HB9 := Lib.hid (below_step HB8.out hb9)); (clear hb9)))
  go_ret
  exact ⟨rfl, HB9.out⟩
end Go.Proofs.YtflbioiildndoaaDoor

