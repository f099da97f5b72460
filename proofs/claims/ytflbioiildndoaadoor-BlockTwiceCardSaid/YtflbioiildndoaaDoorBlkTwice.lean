/- the statement BlockTwice: its walk (printed by wip/tools/gen_laws04.py) -/
import Derived.Test.YtflbioiildndoaaDoorBlkPlay
import Derived.Test.YtflbioiildndoaaDoorBlkSame
import Derived.Test.YtflbioiildndoaaDoorBlkLawMath
namespace Go.Proofs.YtflbioiildndoaaDoor
open Go.RowKit
set_option linter.unusedVariables false
set_option linter.unusedSimpArgs false
set_option maxRecDepth 100000 in
set_option maxHeartbeats 1000000 in
theorem blockTwice_walk (lv : Value) (acts : List BAct) (a0 a1 : Int) (mask : BitVec 32) (w : World) (A : Nat → Addr) (hs : Sents w A) (ha : Acts w.heap.size w lv acts) :
    Calls Tryd.prog 6 #[lv, .agg #[.int .i64 a0, .int .i64 a1], .int .u32 (mask.toNat : Int)] w fun e w' => e = .returned (.bool true) ∧ Below w.heap.size w w' := by
  obtain ⟨aa, ac, rfl, hac, hacm, -⟩ := id ha.row
  unfold maxLen at hacm
  have HA := Lib.hid ha
  have HS := Lib.hid hs
  clear ha hs
  obtain ⟨D, hD⟩ : ∃ D, playK acts (min acts.length 40) = D := ⟨_, rfl⟩
  have hDo : Bk.Ok 40 D := hD ▸ (playK_ok acts _).mono (Nat.min_le_right _ _)
  have hbl : D.blocks = 8 := hD ▸ playK_blocks acts _
  have hsz : D.size = 256 := hD ▸ playK_size acts _
  obtain ⟨i, hi⟩ : ∃ i : Int, wrap64 ((IntKind.u64.wrap a0).tmod 8) = i := ⟨_, rfl⟩
  obtain ⟨bit, hbit⟩ : ∃ b : Int, wrap64 ((IntKind.u64.wrap a1).tmod 2048) = b := ⟨_, rfl⟩
  have hi0 : 0 ≤ i ∧ i < 8 := by have := mod_spell a0 8 (by decide) (by decide); omega
  have hb0 : 0 ≤ bit ∧ bit < 2048 := by have := mod_spell a1 2048 (by decide) (by decide); omega
  have hin : Bk.In D i ∧ 0 ≤ bit ∧ bit < 8 * (D.size : Int) := ⟨⟨hi0.1, by omega⟩, hb0.1, by omega⟩
  obtain ⟨E, hE⟩ : ∃ E, (Bk.corrupt D i bit mask).1 = E := ⟨_, rfl⟩
  have hE1 : Bk.corrupt D i bit mask = (E, 0) := by rw [← hE, ← Bk.corrupt_code hin]
  have hE2 : Bk.corrupt E i bit mask = (D, 0) := by
    have h1 := Bk.corrupt_twice (mask := mask) hDo hin
    rw [hE] at h1
    have h2 : Bk.In E i ∧ 0 ≤ bit ∧ bit < 8 * (E.size : Int) := by
      rw [← hE]
      unfold Bk.corrupt
      rw [if_pos hin]
      exact hin
    exact Prod.ext h1 (Bk.corrupt_code h2)
  have hEo : Bk.Ok 40 E := by rw [← hE]; exact hDo.corrupt _ _ _
  have HD0 := Lib.hid hD
  have HDO := Lib.hid hDo
  have HE1 := Lib.hid hE1
  have HE2 := Lib.hid hE2
  have HEO := Lib.hid hEo
  have HBL := Lib.hid hbl
  have HSZ := Lib.hid hsz
  clear hD hDo hE1 hE2 hEo hbl hsz
  clear hE hin
  go_enter Tryd.func6, Tryd.ntmps6
  go_upto_region 1 with fail
  refine wp_name fun W hW => ?_
  have HY := Lib.hid (show BoxAt W w.heap.size [.int .i64 a0, .int .i64 a1] by rw [hW]; exact BoxAt.new w [_, _] _)
  have HB := Lib.hid (show Below w.heap.size w W by rw [hW]; go_grown)
  clear hW
  go_upto_region 2 with (go_at_call 21; (refine (played04_to w.heap.size _ acts D HD0.out _ HB.out.size (HA.out.below HB.out) A (HS.out.below HB.out)).mono ?_); (rintro e w11 ⟨⟨p1, v1, F1, G1, rfl, hd, hr, hF, hG, hGF, hFB⟩, hb⟩); (obtain ⟨lv2, wv2, kv2, xs1, ys1, rfl, h2⟩ := hr); (obtain ⟨la1, lc1, wa1, wc1, ka1, kc1, rfl, rfl, rfl⟩ := h2.shape); (have H1 := Lib.hid h2); (have HD1 := Lib.hid hd); (have HF1 := Lib.hid hF); (have HG1 := Lib.hid hG); (have HGF1 := Lib.hid hGF); (have HFB1 := Lib.hid hFB); (have HB1 := Lib.hid (below_step HB.out hb)); (have HBa1 := Lib.hid hb); (clear h2 hd hF hG hGF hFB hb); (unfold refD))
  refine wp_name fun V hV => ?_
  obtain ⟨nb1, hnb⟩ : ∃ nb, w11.heap.size = nb := ⟨_, rfl⟩
  have hvb : BoxAt V nb1 [.int .i64 (D.blocks : Int), .int .i64 (D.size : Int), .slice la1 xs1.length lc1, .slice wa1 ys1.length wc1, .bool D.lit, .int .i64 D.after, .int .i64 D.torn, .int .i64 D.cut, .slice ka1 D.keep.length kc1, .bool D.off, .int .i64 D.count] ∧ Below w11.heap.size w11 V := by
    rw [hV]
    exact ⟨BoxAt.newAt _ _ hnb [_, _, _, _, _, _, _, _, _, _, _] _, (Below.refl _ _).alloc (Nat.le_refl _) _⟩
  have HX1 := Lib.hid hvb.1
  have HBX1 := Lib.hid hvb.2
  have HBV1 := Lib.hid (below_step HB1.out hvb.2)
  have HDV1 := Lib.hid (HD1.out.below HF1.out hvb.2)
  have HFV1 := Lib.hid (HF1.out.more hvb.2.size)
  have HV1 := Lib.hid (H1.out.below HG1.out hvb.2)
  have HGV1 := Lib.hid (HG1.out.more hvb.2.size)
  have HFBw := Lib.hid (show ∀ k, F1 k → w.heap.size ≤ k from fun k hk => by have := HFB1.out k hk; have := HB.out.size; omega)
  have hnF : ¬ F1 nb1 := fun h => by have := HF1.out _ h; omega
  have hnG : ¬ G1 nb1 := fun h => by have := HG1.out _ h; omega
  have HNF1 := Lib.hid hnF
  have HNG1 := Lib.hid hnG
  rw [hnb]
  clear hV hvb hnF hnG
  clear hnb
  obtain ⟨y0, y1⟩ := ((HY.out.below HBa1.out).below HBX1.out).two
  go_upto_region 7 with (go_at_call 28; (refine (corrupt_to HDV1.out HDO.out HFV1.out i bit mask HE1.out A (HS.out.below HBV1.out)).mono ?_); (rintro e w4 h4); (obtain ⟨F4, rfl, hd4, hb4, hg4⟩ := h4.ok); (have HD4 := Lib.hid hd4); (have HB4 := Lib.hid hb4); (have HG4 := Lib.hid hg4); (clear h4 hd4 hb4 hg4))
  have hwV := HBV1.out.size
  have hF4B := HG4.out.ge HFBw.out hwV
  have hbw4 : Below w.heap.size w w4 := HBV1.out.trans (HB4.out.below HFBw.out hwV)
  have HF4B := Lib.hid hF4B
  have HBW4 := Lib.hid hbw4
  clear hF4B hbw4
  go_upto_region 8 with (go_at_call 28; (refine (corrupt_to HD4.out HEO.out HG4.out.held i bit mask HE2.out A (HS.out.below HBW4.out)).mono ?_); (rintro e w5 h5); (obtain ⟨F5, rfl, hd5, hb5, hg5⟩ := h5.ok); (have HD5 := Lib.hid hd5); (have HB5 := Lib.hid hb5); (have HG5 := Lib.hid hg5); (clear h5 hd5 hb5 hg5))
  have hw4 := HBW4.out.size
  have HBW5 := Lib.hid (HBW4.out.trans (HB5.out.below HF4B.out hw4))
  have hga := HG4.out.apart HGV1.out HGF1.out
  have HX5 := Lib.hid ((HX1.out.beside HB4.out HNF1.out).beside HB5.out (fun h => by
    rcases (HG4.out _ h).1 with h1 | h1
    · exact HNF1.out h1
    · have := HX1.out.lt; omega))
  have HR5 := Lib.hid ((HV1.out.beside HB4.out HGV1.out HGF1.out).beside HB5.out (fun k hk => Nat.lt_of_lt_of_le (HGV1.out k hk) HB4.out.size) hga)
  have HG5' := Lib.hid (show Held G1 w5 from fun k hk => Nat.lt_of_lt_of_le (Nat.lt_of_lt_of_le (HGV1.out k hk) HB4.out.size) HB5.out.size)
  clear y0 y1 hga
  obtain ⟨x0, x1, x2, x3, x4, x5, x6, x7, x8, x9, x10⟩ := HX5.out.eleven
  have hrr := HR5.out.at
  unfold refD at hrr
  have HRR := Lib.hid hrr
  clear hrr
  go_wp2_with (first
    | (go_at_call 27; (refine (all04_any HD5.out HDO.out (Obs.refl D) HRR.out HG5.out.held HG5'.out HDO.out A (HS.out.below HBW5.out)).mono ?_); (rintro e w8 ⟨rfl, hb8⟩); (have HB8 := Lib.hid (below_step HBW5.out hb8)); (clear hb8))
    | (go_at_call 17; (refine (awake04_any _ A (HS.out.below HB8.out)).mono ?_); (rintro e w9 ⟨rfl, hb9⟩); (have HB9 := Lib.hid (below_step HB8.out hb9)); (clear hb9)))
  go_ret
  exact ⟨rfl, HB9.out⟩
end Go.Proofs.YtflbioiildndoaaDoor

