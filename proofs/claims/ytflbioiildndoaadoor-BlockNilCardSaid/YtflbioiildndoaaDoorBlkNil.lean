/- the statement BlockNil: its walk -/
import Derived.Test.YtflbioiildndoaaDoorBlkStep1
import Derived.Test.YtflbioiildndoaaDoorBlkSame
namespace Go.Proofs.YtflbioiildndoaaDoor
open Go.RowKit
set_option linter.unusedVariables false
set_option linter.unusedSimpArgs false

/-- what make makes of a world, chosen once and for all -/
theorem make_choice (n : Nat) (hn : n ≤ 140737488355328) : ∃ mk : World → World, (∀ w : World, (Instr.makeSlice 32 (.int .i64 (n : Int)) (.int .i64 (n : Int))).run Tryd.prog w = .ok (.slice (some ⟨w.heap.size, 0, none⟩) n n) (mk w)) ∧
    ∀ w : World, Own (mk w) w.heap.size (.slice (some ⟨w.heap.size, 0, none⟩) n n) (Bk.zeros n) ∧ w.grownBy (mk w) none := by
  have h : ∀ w : World, ∃ w', (Instr.makeSlice 32 (.int .i64 (n : Int)) (.int .i64 (n : Int))).run Tryd.prog w = .ok (.slice (some ⟨w.heap.size, 0, none⟩) n n) w' ∧ Own w' w.heap.size (.slice (some ⟨w.heap.size, 0, none⟩) n n) (Bk.zeros n) ∧ w.grownBy w' none := fun w => by
    obtain ⟨i0, hi, hz0, hz1, hz2⟩ := info_parts Tryd.infoByte
    obtain ⟨w', hrun, r1, r2⟩ := run_make_full (P := Tryd.prog) w w.heap.size 32 5 i0 (.int .u8 0) 1 Tryd.underlying32 hi hz0 hz1 .i64 .i64 n (by rw [hz2]; omega) (by unfold maxLen; omega) (Nat.le_refl _)
    refine ⟨w', hrun, ?_, r2⟩
    unfold Own
    have e : (madeCells (Value.cells (.int .u8 0)) (n * 1)).toList = bytesV (Bk.zeros n) := by
      show (madeCells #[Value.int .u8 0] (n * 1)).toList = _
      rw [toList_madeCells_one]
      simp [bytesV, Bk.zeros]
    rw [e] at r1
    rw [show (Bk.zeros n).length = n from List.length_replicate]
    exact r1
  exact ⟨fun w => (h w).choose, fun w => (h w).choose_spec.1, fun w => (h w).choose_spec.2⟩
theorem write_nil' (i : Int) (w : World) (A : Nat → Addr) (hs : Sents w A) :
    Calls Tryd.prog 33 #[.pointer none, .int .i64 i, .slice none 0 0] w fun e w' => IsFault A w.heap.size [-1] 7 e w' ∧ Below w.heap.size w w' := write_nil i _ w A hs
set_option maxRecDepth 100000 in
set_option maxHeartbeats 1000000 in
theorem blockNil_walk (a : BAct) (w : World) (A : Nat → Addr) (hs : Sents w A) :
    Calls Tryd.prog 8 #[.agg a.cells.toArray] w fun e w' => e = .returned (.bool true) ∧ Below w.heap.size w w' := by
  obtain ⟨kind, ai, fill, short, ka, keep, kc, torn, cut, mask⟩ := a
  simp only [BAct.cells]
  have HS := Lib.hid hs
  obtain ⟨D, hD⟩ : ∃ D, Bk.new 8 256 = D := ⟨_, rfl⟩
  obtain ⟨Z, hZ⟩ : ∃ Z, Bk.zeros 256 = Z := ⟨_, rfl⟩
  have hDo : Bk.Ok 0 D := hD ▸ awk_ok0
  have hof : D.off = false := hD ▸ rfl
  have hin : Bk.In D 0 := by rw [← hD]; exact ⟨by decide, by decide⟩
  have hrd : Bk.read D (0 : Int).toNat = Z := by rw [← hD, ← hZ]; rfl
  have hla : Bk.lastB D (0 : Int).toNat = Z := by rw [← hD, ← hZ]; rfl
  have hzl : Z.length = 256 := by rw [← hZ]; unfold Bk.zeros; exact List.length_replicate
  have HD0 := Lib.hid hD
  have HZ := Lib.hid hZ
  have HDO := Lib.hid hDo
  have HOF := Lib.hid hof
  have HIN := Lib.hid hin
  have HRD := Lib.hid hrd
  have HLA := Lib.hid hla
  have HZL := Lib.hid hzl
  clear hs hD hZ hDo hof hin hrd hla hzl
  go_enter Tryd.func8, Tryd.ntmps8
  go_upto_region 1 with fail
  refine wp_name fun W hW => ?_
  have HY := Lib.hid (show BoxAt W w.heap.size [.int .i64 kind, .int .i64 ai, .int .u8 (fill.toNat : Int), .bool short, .slice ka keep.length kc, .int .i64 torn, .int .i64 cut, .int .u32 (mask.toNat : Int)] by rw [hW]; exact BoxAt.new w [_, _, _, _, _, _, _, _] _)
  have HB := Lib.hid (show Below w.heap.size w W by rw [hW]; go_grown)
  clear hW
  obtain ⟨m0, m1, m2, m3, m4, m5, m6, m7⟩ := HY.out.eight
  go_upto_region 3 with (go_at_call 18; (refine (read_nil ai _ A (HS.out.below HB.out)).mono ?_); (rintro e w1 ⟨⟨E1, rfl, he⟩, hb⟩); (have HE1 := Lib.hid he); (have HB1 := Lib.hid (below_step HB.out hb)); (have HY1 := Lib.hid (HY.out.below hb)); (clear he hb m0 m1 m2 m3 m4 m5 m6 m7); (obtain ⟨m0, m1, m2, m3, m4, m5, m6, m7⟩ := HY1.out.eight))
  go_upto_region 4 with (go_at_call 32; (refine (lasting_nil ai _ A (HS.out.below HB1.out)).mono ?_); (rintro e w2 ⟨⟨E2, rfl, he⟩, hb⟩); (have HE2 := Lib.hid he); (have HE1' := Lib.hid (HE1.out.below hb)); (have HB2 := Lib.hid (below_step HB1.out hb)); (have HY2 := Lib.hid (HY1.out.below hb)); (clear he hb m0 m1 m2 m3 m4 m5 m6 m7); (obtain ⟨m0, m1, m2, m3, m4, m5, m6, m7⟩ := HY2.out.eight))
  go_upto_region 6 with (first
    | (go_at_call 16; (refine (tells04_any (HS.out.below HB2.out) _ 7 _ HE1'.out 7 rfl).mono ?_); (rintro e wt ⟨rfl, rfl⟩); (clear HE1'))
    | (go_at_call 16; (refine (tells04_any (HS.out.below HB2.out) _ 7 _ HE2.out 7 rfl).mono ?_); (rintro e wt ⟨rfl, rfl⟩); (clear HE2))
    | (go_at_call 33; (refine (write_nil' ai _ A (HS.out.below HB2.out)).mono ?_); (rintro e w3 ⟨⟨v3, rfl, he⟩, hb⟩); (have HE3 := Lib.hid he); (have HB3 := Lib.hid (below_step HB2.out hb)); (have HY3 := Lib.hid (HY2.out.below hb)); (clear he hb m0 m1 m2 m3 m4 m5 m6 m7); (obtain ⟨m0, m1, m2, m3, m4, m5, m6, m7⟩ := HY3.out.eight))
    | (go_at_call 16; (refine (tells04_any (HS.out.below HB3.out) _ 7 _ HE3.out 7 rfl).mono ?_); (rintro e wt ⟨rfl, rfl⟩); (clear HE3))
    | (go_at_call 25; (refine (flush_nil _ A (HS.out.below HB3.out)).mono ?_); (rintro e w4 ⟨⟨v4, rfl, he⟩, hb⟩); (have HE4 := Lib.hid he); (have HB4 := Lib.hid (below_step HB3.out hb)); (have HY4 := Lib.hid (HY3.out.below hb)); (clear he hb m0 m1 m2 m3 m4 m5 m6 m7); (obtain ⟨m0, m1, m2, m3, m4, m5, m6, m7⟩ := HY4.out.eight))
    | (go_at_call 16; (refine (tells04_any (HS.out.below HB4.out) _ 7 _ HE4.out 7 rfl).mono ?_); (rintro e wt ⟨rfl, rfl⟩); (clear HE4)))
  go_upto_region 8 with (first
    | (go_at_call 26; (refine (crash_nil _ torn cut _ A (HS.out.below HB4.out)).mono ?_); (rintro e w5 ⟨⟨v5, rfl, he⟩, hb⟩); (have HE5 := Lib.hid he); (have HB5 := Lib.hid (below_step HB4.out hb)); (have HY5 := Lib.hid (HY4.out.below hb)); (clear he hb m0 m1 m2 m3 m4 m5 m6 m7); (obtain ⟨m0, m1, m2, m3, m4, m5, m6, m7⟩ := HY5.out.eight))
    | (go_at_call 16; (refine (tells04_any (HS.out.below HB5.out) _ 7 _ HE5.out 7 rfl).mono ?_); (rintro e wt ⟨rfl, rfl⟩); (clear HE5))
    | (go_at_call 28; (refine (corrupt_nil ai cut _ _ A (HS.out.below HB5.out)).mono ?_); (rintro e w6 ⟨⟨v6, rfl, he⟩, hb⟩); (have HE6 := Lib.hid he); (have HB6 := Lib.hid (below_step HB5.out hb)); (have HY6 := Lib.hid (HY5.out.below hb)); (clear he hb m0 m1 m2 m3 m4 m5 m6 m7); (obtain ⟨m0, m1, m2, m3, m4, m5, m6, m7⟩ := HY6.out.eight))
    | (go_at_call 16; (refine (tells04_any (HS.out.below HB6.out) _ 7 _ HE6.out 7 rfl).mono ?_); (rintro e wt ⟨rfl, rfl⟩); (clear HE6))
    | (go_at_call 29; (refine (arm_nil ai torn cut _ _ A (HS.out.below HB6.out)).mono ?_); (rintro e w7 ⟨⟨v7, rfl, he⟩, hb⟩); (have HE7 := Lib.hid he); (have HB7 := Lib.hid (below_step HB6.out hb)); (have HY7 := Lib.hid (HY6.out.below hb)); (clear he hb m0 m1 m2 m3 m4 m5 m6 m7); (obtain ⟨m0, m1, m2, m3, m4, m5, m6, m7⟩ := HY7.out.eight))
    | (go_at_call 16; (refine (tells04_any (HS.out.below HB7.out) _ 7 _ HE7.out 7 rfl).mono ?_); (rintro e wt ⟨rfl, rfl⟩); (clear HE7))
    | (go_at_call 31; (refine (off_nil _).mono ?_); (rintro e wt ⟨rfl, rfl⟩))
    | (go_at_call 30; (refine (count_nil _).mono ?_); (rintro e wt ⟨rfl, rfl⟩))
    | (go_at_call 20; (refine (waiting_nil _).mono ?_); (rintro e wt ⟨rfl, rfl⟩))
    | (go_at_call 19; (refine (geo_nil _).mono ?_); (rintro e w8 ⟨rfl, hb⟩); (have HB8 := Lib.hid (below_step HB7.out hb)); (clear hb)))
  clear m0 m1 m2 m3 m4 m5 m6 m7
  go_upto_region 11 with (first
    | (go_at_call 13; (refine (new_ok4 8 256 (by omega) (by omega) _).mono ?_); (rintro e w10 ⟨⟨p, rfl, hd⟩, hb⟩); (have HD := Lib.hid hd); (have HB10 := Lib.hid (below_step HB9.out hb)); (clear hd hb))
    | (go_at_call 34; (refine (small04_is _).mono ?_); (rintro e w9 ⟨rfl, hb⟩); (have HB9 := Lib.hid (below_step HB8.out hb)); (clear hb)))
  have hdd := HD.out
  rw [HD0.out] at hdd
  have HDD := Lib.hid hdd
  have HF := Lib.hid (show Held (fun k => w9.heap.size ≤ k ∧ k < w10.heap.size) w10 from fun k hk => hk.2)
  clear hdd HD
  go_upto_region 12 with (go_at_call 18; (refine (read_to HDD.out HDO.out 0 HIN.out HOF.out Z HRD.out).mono ?_); (rintro e w11 ⟨⟨g, rfl, ho⟩, hb⟩); (have HO := Lib.hid ho); (have HB11 := Lib.hid (below_step HB10.out hb)); (have HD11 := Lib.hid (HDD.out.below HF.out hb)); (have HS11 := Lib.hid hb.size); (clear ho hb))
  have hz : (Z.length : Int) = 256 := by have := HZL.out; omega
  have hlg := HO.out.lt g rfl
  go_wp2_with fail
  go_loopw [12] (fun i wr => ∃ j : Nat, j ≤ 256 ∧ i = .int .i64 (j : Int) ∧ ∃ l', l'.length = Z.length ∧ Own wr w10.heap.size (.slice (some ⟨g, 0, none⟩) Z.length Z.length) l' ∧ w11.grownBy wr (some g)) (fun i _ => 256 - (intOf i).toNat)
  case atStart => exact ⟨0, by omega, rfl, Z, rfl, HO.out, World.grownBy.refl _ _⟩
  case round =>
    obtain ⟨j, hj, rfl, l', hl', ho', hgr⟩ := hrel
    have HO' := Lib.hid ho'
    have HGR := Lib.hid hgr
    have HL' := Lib.hid hl'
    clear ho' hgr hl'
    by_cases hlt : j < 256
    · obtain ⟨y, hy⟩ := getElem?_some_of_lt (show j < l'.length by have := HL'.out; have := HZL.out; omega)
      have hcell := HO'.out.cell HL'.out.symm hy
      have hfree := HO'.out.free HL'.out.symm j
      have hlt1 : (j : Int) < 256 := by omega
      have hj0 : (0 : Int) ≤ (j : Int) := by omega
      have HWR := Lib.hid (HO'.out.set (k := j) HL'.out.symm 7)
      clear hy
      go_wp2_with fail
      go_roundw
      case rel => exact ⟨j + 1, by omega, by go_num, _, by rw [List.length_set, HL'.out], HWR.out, grownBy_set HGR.out _ _⟩
      case measure => simp [intOf]; omega
    · obtain rfl : j = 256 := by omega
      have hsr : w11.heap.size ≤ wr.heap.size := HGR.out.size
      have hs11 : w10.heap.size ≤ w11.heap.size := HS11.out
      have HDr := Lib.hid (show DiskAt (fun k => w9.heap.size ≤ k ∧ k < w10.heap.size) wr p D from HD11.out.on fun k hk => HGR.out.block k (by omega) (by intro e; cases e; omega))
      have HFr := Lib.hid (show Held (fun k => w9.heap.size ≤ k ∧ k < w10.heap.size) wr from fun k hk => by omega)
      have HBr := Lib.hid (show Below w.heap.size w wr from HB11.out.grown HGR.out HB11.out.size (by intro k hk; cases hk; have := HB10.out.size; omega))
      clear hlt hj
      go_upto_region 17 with (go_at_call 32; (refine (lasting_in HDr.out HDO.out 0 HIN.out.1 HIN.out.2 Z HLA.out).mono ?_); (rintro e w12 ⟨⟨g2, rfl, ho⟩, hb⟩); (have HO2 := Lib.hid ho.bytes); (have HB12 := Lib.hid (below_step HBr.out hb)); (clear ho hb))
      obtain ⟨mk, hmk, hmo⟩ := make_choice 256 (by omega)
      rw [show ((256 : Nat) : Int) = 256 from rfl, HZ.out] at *
      have HMO := Lib.hid hmo
      clear hmo
      go_wp2_with (first
        | (go_at_call 35; (have hgw := (HMO.out w12).2); (refine (same_self _ _ Z _ (HO2.out.below ((Below.refl _ _).grown hgw (Nat.le_refl _) (by intro k hk; cases hk))) (HMO.out w12).1.bytes).mono ?_); (rintro e w14 ⟨rfl, hb⟩); (have HB14 := Lib.hid (below_step (HB12.out.grown hgw HB12.out.size (by intro k hk; cases hk)) hb)); (clear hb hgw))
        | (go_at_call 17; (refine (awake04_any _ A (HS.out.below HB14.out)).mono ?_); (rintro e w15 ⟨rfl, hb⟩); (have HB15 := Lib.hid (below_step HB14.out hb)); (clear hb)))
      go_ret
      exact ⟨rfl, HB15.out⟩
end Go.Proofs.YtflbioiildndoaaDoor
