/- the statements of caches: CacheCorrupt (printed by wip/tools/gen_cachecor.py) -/
import Derived.Test.YtflbioiildndoaaDoorCacheA
import Derived.Test.YtflbioiildndoaaDoorTells08
import Derived.Test.YtflbioiildndoaaDoorPageSame
namespace Go.Proofs.YtflbioiildndoaaDoor
open Go.RowKit
set_option linter.unusedVariables false
set_option linter.unusedSimpArgs false

theorem CIn.opened {U : Nat → Prop} {w : World} {c dp rg rc : Nat} {C : Ch.Cache} (h : CIn U w c dp rg rc C) : ∃ F : Nat → Prop, DiskAt F w dp C.disk ∧ Held F w ∧ (∀ k, F k → U k) ∧ ∀ (F' : Nat → Prop) (w' : World) (D : Bk.Disk), DiskAt F' w' dp D → Beside F w w' → Grows F w F' w' → CIn (More U w w') w' c dp rg rc { C with disk := D } := by
  obtain ⟨F, M, xs, h1, h2, h3, h4, h5, h6⟩ := h
  refine ⟨F, h1.disk, h1.heldF, h2, fun F' w' D hd hb hg => ⟨F', M, xs, h1.disks hd hb hg, fun k hk => ?_, fun k hk => .inl (h3 k hk), .inl h4, .inl h5, More.held h6 hb.size⟩⟩
  obtain ⟨g1, g2⟩ := hg k hk
  rcases g1 with g1 | g1
  · exact .inl (h2 k g1)
  · exact .inr ⟨g1, g2⟩
theorem bits_or_one8 (a : BitVec 32) : bits .or .u32 (a.toNat : Int) 1 = ((a ||| 1#32).toNat : Int) := by
  show IntKind.u32.wrap ((BitVec.ofInt 32 (a.toNat : Int) ||| BitVec.ofInt 32 1).toNat : Int) = _
  rw [BitVec.ofInt_natCast, BitVec.ofNat_toNat, BitVec.setWidth_eq]
  exact wrap_u32_nat _ (a ||| 1#32).isLt
theorem or_one_bit8 (a : BitVec 32) : (a ||| 1#32).getLsbD 0 = true := by
  rw [BitVec.getLsbD_or]
  simp
set_option maxRecDepth 100000 in
set_option maxHeartbeats 8000000 in
theorem cacheCorrupt_walk (id : Int) (bit : Nat) (mask : BitVec 32) (hand : Bool) (w : World) (A : Nat → Addr) (hs : Sents w A) (hbit : bit < 65536) :
    Calls Tryd.prog 11 #[.agg #[.int .i64 id, .int .u16 (bit : Int), .int .u32 (mask.toNat : Int)], .bool hand] w fun e w' => e = .returned (.bool true) ∧ Below w.heap.size w w' := by
  obtain ⟨M, hM⟩ : ∃ M, Ch.madeD 6 = M := ⟨_, rfl⟩
  have hmade := Ch.madeD_ok (Nat.le_refl 6)
  rw [hM] at hmade
  obtain ⟨M1, hf, hmade1, hw1⟩ := Ch.made_flush hmade
  obtain ⟨b2, hb2⟩ : ∃ b2, bit % 2048 = b2 := ⟨_, rfl⟩
  have hb2l : b2 < 2048 := by omega
  have hbt : (bit : Int).tmod 2048 = (b2 : Int) := by rw [← hb2, Int.tmod_eq_emod_of_nonneg (by omega)]; push_cast; rfl
  have hbw : wrap64 (b2 : Int) = (b2 : Int) := by rw [wrap64_is, IntKind.wrap_i64]; omega
  have hbi : IntKind.i64.wrap (b2 : Int) = (b2 : Int) := by rw [IntKind.wrap_i64]; omega
  have hor := bits_or_one8 mask
  have hor2 := or_one_bit8 mask
  generalize mask ||| 1#32 = mk at hor hor2
  obtain ⟨j, hj⟩ : ∃ j : Nat, 2 + (id % 18446744073709551616 % 6) = (j : Int) := ⟨(2 + (id % 18446744073709551616 % 6)).toNat, by omega⟩
  have hj2 : 2 ≤ j ∧ j ≤ 7 := by omega
  have hm1 := mod_spell8 id 6 (by decide) (by decide)
  obtain ⟨r, hr⟩ : ∃ r : Int, id % 18446744073709551616 % 6 = r := ⟨_, rfl⟩
  rw [hr] at hm1 hj
  have hr2 : r = (j : Int) - 2 := by omega
  subst hr2
  have hm2 : IntKind.i64.wrap (2 + ((j : Int) - 2)) = (j : Int) := by rw [IntKind.wrap_i64]; omega
  obtain ⟨f, hfv⟩ : ∃ f : UInt8, UInt8.ofNat j = f := ⟨_, rfl⟩
  have hfw : IntKind.u8.wrap (j : Int) = (f.toNat : Int) := by rw [← hfv, IntKind.wrap_u8, UInt8.toNat_ofNat']; omega
  have hV : Ch.V0 (j : Int) = Ch.leafP (j : Int) f := by unfold Ch.V0; rw [Int.toNat_natCast, hfv]
  have HV := Lib.hid hV
  have HS := Lib.hid hs
  have HM := Lib.hid hM
  have HF := Lib.hid hf
  have HMK := Lib.hid hmade
  have HM1 := Lib.hid hmade1
  have HW1 := Lib.hid hw1
  have HOR := Lib.hid hor2
  clear hs hM hf hmade hmade1 hw1 hb2 hr hj hV hfv hor2
  go_enter Tryd.func11, Tryd.ntmps11
  go_upto_region 1 with fail
  obtain ⟨nb, hnb⟩ : ∃ nb, w.heap.size = nb := ⟨_, rfl⟩
  refine wp_name fun W hW => ?_
  have HX := Lib.hid (show BoxAt W nb [.int .i64 id, .int .u16 (bit : Int), .int .u32 (mask.toNat : Int)] by rw [hW]; exact BoxAt.newAt _ _ hnb [_, _, _] _)
  have HBW := Lib.hid (show Below w.heap.size w W by rw [hW]; exact (Below.refl _ _).alloc (Nat.le_refl _) _)
  have hsW : nb < W.heap.size := HX.out.lt
  clear hW
  rw [hnb]
  clear hnb
  go_upto_region 2 with (go_at_call 36; (refine (made08_is 3 3 rfl (by omega) M HM.out W A (HS.out.below HBW.out)).mono ?_); (rintro e w1 ⟨⟨c, dp, rg, rc, U, rfl, hC, hge⟩, hb1⟩); (have HC := Lib.hid hC); (have HGE := Lib.hid hge); (have HB1 := Lib.hid hb1); (clear hC hge hb1))
  have hs0 : w.heap.size ≤ W.heap.size := HBW.out.size
  have hs1 : W.heap.size ≤ w1.heap.size := HB1.out.size
  have HBW1 := Lib.hid (below_step HBW.out HB1.out)
  have HU1 := Lib.hid (show ∀ k, U k → w.heap.size ≤ k from fun k hk => by have := HGE.out k hk; omega)
  have HN1 := Lib.hid (show ¬ U nb from fun h => by have := HGE.out nb h; omega)
  have HX1 := Lib.hid (HX.out.below HB1.out)
  obtain ⟨F, hdk, hHF, hFU, hin⟩ := HC.out.opened
  have HDK := Lib.hid hdk
  have HHF := Lib.hid hHF
  have HFU := Lib.hid hFU
  have HIN := Lib.hid hin
  clear hdk hHF hFU hin
  go_upto_region 4 with (first
    | (go_at_call 45; (refine (cdisk_is HC.out.box).mono ?_); (rintro e wz ⟨rfl, rfl⟩))
    | (go_at_call 25; (refine (flush_to HDK.out HMK.out.ok HHF.out HF.out A (fun wx hx => HS.out.below (HBW1.out.trans ((hx.mono HFU.out).below HU1.out (by omega))))).mono ?_); (rintro e w2 ⟨F2, l2, v2, rfl, hE2, hd2, hb2, hg2⟩); (obtain ⟨rfl, rfl⟩ := hE2.isNil); (have HC2 := Lib.hid (HIN.out F2 w2 _ hd2 hb2 hg2)); (have HB2 := Lib.hid (hb2.mono HFU.out)); (clear hE2 hd2 hb2 hg2)))
  have hs2 : w1.heap.size ≤ w2.heap.size := HB2.out.size
  have HBW2 := Lib.hid (HBW1.out.trans (HB2.out.below HU1.out (by omega)))
  have HU2 := Lib.hid (show ∀ k, More U w1 w2 k → w.heap.size ≤ k from fun k hk => hk.elim (HU1.out k) fun h => by omega)
  have HN2 := Lib.hid (show ¬ More U w1 w2 nb from fun h => h.elim HN1.out fun h => by omega)
  have HX2 := Lib.hid (HX1.out.beside HB2.out HN1.out)
  have HCN := Lib.hid (show CIn (More U w1 w2) w2 c dp rg rc (Ch.new M1 3) from HC2.out)
  obtain ⟨x0, x1, x2⟩ := HX2.out.three
  cases hand with
  | true =>
    obtain ⟨C1, D2, C2, e1, ok1, e2, ok2, e3⟩ := Ch.corrupt_hand HM1.out (id := (j : Int)) (by omega) (by omega) mk hb2l
    rw [HV.out] at e1 e3
    have HE1 := Lib.hid e1
    have HEC := Lib.hid e2
    have HE3 := Lib.hid e3
    have HOK1 := Lib.hid ok1
    have HOK3 := Lib.hid ok1.disk
    have HOK2 := Lib.hid ok2
    have hokn := (Ch.new_good HM1.out (Nat.le_refl 3) (by decide)).1.ok
    have HOKN := Lib.hid hokn
    clear e1 e2 e3 ok1 ok2 hokn
    go_upto_region 7 with (go_at_call 40; (refine (cgetLeaf_is HCN.out HOKN.out (by omega) (j : Int) (j : Int) f HE1.out A (fun wx hx => HS.out.below (HBW2.out.trans (hx.below HU2.out (by omega))))).mono ?_); (rintro e w3 ⟨g3, c3, rfl, hO3, hC3, hB3⟩); (have HC3 := Lib.hid hC3); (have HB23 := Lib.hid hB3); (clear hO3 hC3 hB3))
    have hs23 : w2.heap.size ≤ w3.heap.size := HB23.out.size
    have HB3 := Lib.hid (HBW2.out.trans (HB23.out.below HU2.out (by omega)))
    have HX3 := Lib.hid (HX2.out.beside HB23.out HN2.out)
    have HU3 := Lib.hid (show ∀ k, More (More U w1 w2) w2 w3 k → w.heap.size ≤ k from fun k hk => hk.elim (HU2.out k) fun h => by omega)
    clear x0 x1 x2
    generalize More (More U w1 w2) w2 w3 = U3 at *
    -- region 7: from world w3 with HC3 : CIn U3 w3 .. C3, HX3 the box, HB3, HU3, HEC : corrupt, HOK3
    have hs3 : w.heap.size ≤ w3.heap.size := HB3.out.size
    obtain ⟨m0, m1, m2⟩ := HC3.out.box.three
    obtain ⟨x0, x1, x2⟩ := HX3.out.three
    obtain ⟨F3, hdd, hHF, hFU, hin⟩ := HC3.out.opened
    have HDD := Lib.hid hdd
    have HHF := Lib.hid hHF
    have HFU := Lib.hid hFU
    have HIN := Lib.hid hin
    clear hdd hHF hFU hin
    have p0 := Near.cell (w := w3.drew) (row := none) (show w3.drew.cell? ⟨c, 0, none⟩ = _ from m0) (by simp)
    have r1 := Near.cell (w := w3.drew) (row := none) (show w3.drew.cell? ⟨nb, 1, none⟩ = _ from x1) (by simp)
    have r2 := Near.cell (w := w3.drew) (row := none) (show w3.drew.cell? ⟨nb, 2, none⟩ = _ from x2) (by simp)
    refine wp_region_mix (fun w' => ∃ x : Near w3.drew none, w' = x.world) [10, 11] 12 (by kernel_rfl) rfl ?_
    refine mix_reads_lit [0, 2, 3, 4, 5, 6, 7, 8, 9] 3 (by kernel_rfl) (by kernel_rfl) (by kernel_rfl) (by kernel_rfl) rfl (NearC.of (World.grownBy.refl _ _)) ?_
    simp only [pick, List.filterMap_cons, List.filterMap_nil, List.getElem?_cons_succ, List.getElem?_cons_zero]
    repeat (first | go_big_quiet_step (fail) | quiet_step (fail))
    refine wpQuiet_nil ?_
    clear p0 r1 r2 m0 m1 m2 x0 x1 x2
    refine mix_deed_lit 1 2 (by kernel_rfl) (by kernel_rfl) rfl (fun K hK => ?_)
    simp only [comesUp, List.getElem?_cons_succ, List.getElem?_cons_zero]
    refine if_mk rfl ?_
    go_simp
    refine (cdisk_is (w := w3.drew) (HC3.out.below (Below.refl _ _).drew).box).mono ?_
    rintro e wz ⟨rfl, rfl⟩
    refine hK _ _ (fun _ hc => hc) ?_
    clear hK K
    refine mix_deed_lit 10 1 (by kernel_rfl) (by kernel_rfl) rfl (fun K hK => ?_)
    simp only [comesUp, List.getElem?_cons_succ, List.getElem?_cons_zero]
    refine if_mk rfl ?_
    go_simp
    refine (corrupt_to HDD.out.drew HOK3.out (HHF.out.more (Nat.le_refl _)) (j : Int) (b2 : Int) mk HEC.out A (show Sents w3.drew A from (HS.out.below HB3.out).below (Below.refl _ _).drew)).mono ?_
    rintro e w5 ⟨F5, l5, v5, rfl, hE5, hd5, hb5, hg5⟩
    obtain ⟨rfl, rfl⟩ := hE5.isNil
    have hb5' : Beside F3 w3 w5 := ⟨hb5.os, hb5.tape, hb5.output, hb5.size, hb5.block⟩
    have hg5' : Grows F3 w3 F5 w5 := hg5
    refine hK _ _ (fun h => by simp [keeps] at h) ?_
    clear hK K
    refine mix_deed_lit 11 0 (by kernel_rfl) (by kernel_rfl) rfl (fun K hK => ?_)
    simp only [comesUp, List.getElem?_cons_succ, List.getElem?_cons_zero]
    refine if_mk rfl ?_
    go_simp
    refine hK _ _ (fun h => by simp [keeps] at h) ?_
    clear hK K
    refine mix_done_lit (by kernel_rfl) ?_
    have HC5 := Lib.hid (HIN.out F5 w5 _ hd5 hb5' hg5')
    have HB5 := Lib.hid (HB3.out.trans ((hb5'.mono HFU.out).below HU3.out hs3))
    have hs5 : w3.heap.size ≤ w5.heap.size := hb5'.size
    have HU5 := Lib.hid (show ∀ k, More U3 w3 w5 k → w.heap.size ≤ k from fun k hk => hk.elim (HU3.out k) fun h => by omega)
    clear hE5 hd5 hb5 hg5 hb5' hg5' HDD HHF HFU HIN
    go_upto_region 10 with (go_at_call 40; (refine (cgetLeaf_is HC5.out HOK2.out (by omega) (j : Int) (j : Int) f HE3.out A (fun wx hx => HS.out.below (HB5.out.trans (hx.below HU5.out (by omega))))).mono ?_); (rintro e w6 ⟨g6, c6, rfl, hO6, hC6, hB6⟩); (have HO6 := Lib.hid hO6); (have HB56 := Lib.hid hB6); (clear hO6 hC6 hB6))
    have hs6 : w5.heap.size ≤ w6.heap.size := HB56.out.size
    obtain ⟨nc, hnc⟩ : ∃ nc, w6.heap.size = nc := ⟨_, rfl⟩
    refine wp_name fun V hV => ?_
    have hbV : Below w6.heap.size w6 V := by rw [hV]; exact (Below.refl _ _).alloc (Nat.le_refl _) _
    have HXV := Lib.hid (show BoxAt V nc [.int .i64 3, .int .i64 (j : Int), .int .u64 1, .slice (some ⟨g6, 0, none⟩) 1 c6] by rw [hV]; exact BoxAt.newAt _ _ hnc [_, _, _, _] _)
    have HOV := Lib.hid (HO6.out.below hbV (Nat.le_refl _))
    have HBV := Lib.hid ((HB5.out.trans (HB56.out.below HU5.out (by omega))).trans (hbV.mono (by omega)))
    clear hV hbV
    rw [hnc]
    clear hnc
    obtain ⟨y0, y1, y2, y3⟩ := HXV.out.four
    go_upto_region 11 with fail
    have q0 := Near.cell (w := V.drew) (row := none) (show V.drew.cell? ⟨nc, 0, none⟩ = _ from y0) (by simp)
    have q1 := Near.cell (w := V.drew) (row := none) (show V.drew.cell? ⟨nc, 1, none⟩ = _ from y1) (by simp)
    have q2 := Near.cell (w := V.drew) (row := none) (show V.drew.cell? ⟨nc, 2, none⟩ = _ from y2) (by simp)
    have q3 := Near.cell (w := V.drew) (row := none) (show V.drew.cell? ⟨nc, 3, none⟩ = _ from y3) (by simp)
    refine wp_region_mix (fun w' => ∃ x : Near V.drew none, w' = x.world) [] 14 (by kernel_rfl) rfl ?_
    refine mix_reads_lit [0, 1, 2, 3, 4, 5, 6] 7 (by kernel_rfl) (by kernel_rfl) (by kernel_rfl) (by kernel_rfl) rfl (NearC.of (World.grownBy.refl _ _)) ?_
    simp only [pick, List.filterMap_cons, List.filterMap_nil, List.getElem?_cons_succ, List.getElem?_cons_zero]
    repeat (first | go_big_quiet_step (fail) | quiet_step (fail))
    refine wpQuiet_nil ?_
    clear q0 q1 q2 q3 y0 y1 y2 y3
    refine mix_deed_lit 7 6 (by kernel_rfl) (by kernel_rfl) rfl (fun K hK => ?_)
    simp only [comesUp, List.getElem?_cons_succ, List.getElem?_cons_zero]
    refine if_mk rfl ?_
    go_simp
    refine (leaf08_is (j : Int) f _ rfl V.drew).mono ?_
    rintro e w7 ⟨⟨g7, rfl, -, -, ho7, -⟩, hb7⟩
    have b7 : Below V.heap.size V w7 := below_step (Below.refl _ _).drew hb7
    have b7' : Below V.heap.size V.drew w7 := ⟨b7.os, b7.tape, b7.output, b7.size, b7.block⟩
    refine hK _ _ (fun _ _ => NearC.of (grown_of_below b7' (Nat.le_refl _) _)) ?_
    clear hK K
    refine mix_deed_lit 8 5 (by kernel_rfl) (by kernel_rfl) rfl (fun K hK => ?_)
    simp only [comesUp, List.getElem?_cons_succ, List.getElem?_cons_zero]
    refine if_mk rfl ?_
    go_simp
    have hsame := refSame_any (Ch.leafP (j : Int) f) (Ch.leafP (j : Int) f) (.slice (some ⟨g6, 0, none⟩) 1 c6) (.slice (some ⟨g7, 0, none⟩) 1 1) w7 (HOV.out.bytes.below b7) ho7
    rw [pageEq_self] at hsame
    refine Calls.mono (show Calls Tryd.prog 46 #[.agg #[.int .i64 3, .int .i64 (j : Int), .int .u64 1, .slice (some ⟨g6, 0, none⟩) 1 c6], .agg #[.int .i64 3, .int .i64 (j : Int), .int .u64 1, .slice (some ⟨g7, 0, none⟩) 1 1]] w7 (fun e w' => e = .returned (.bool true) ∧ Below w7.heap.size w7 w') from hsame) ?_
    rintro e w8 ⟨rfl, hb8⟩
    have b8 : Below V.heap.size V w8 := below_step b7 hb8
    have b8' : Below V.heap.size V.drew w8 := ⟨b8.os, b8.tape, b8.output, b8.size, b8.block⟩
    refine hK _ _ (fun _ _ => NearC.of (grown_of_below b8' (Nat.le_refl _) _)) ?_
    clear hK K hsame
    refine mix_reads_lit [9, 10] 3 (by kernel_rfl) (by kernel_rfl) (by kernel_rfl) (by kernel_rfl) rfl (NearC.of (grown_of_below b8' (Nat.le_refl _) _)) ?_
    simp only [pick, List.filterMap_cons, List.filterMap_nil, List.getElem?_cons_succ, List.getElem?_cons_zero]
    repeat (first | go_big_quiet_step (fail) | quiet_step (fail))
    refine wpQuiet_nil ?_
    refine mix_deed_lit 11 2 (by kernel_rfl) (by kernel_rfl) rfl (fun K hK => ?_)
    simp only [comesUp, List.getElem?_cons_succ, List.getElem?_cons_zero]
    refine if_mk rfl ?_
    go_simp
    refine (awake08_any w8 A (HS.out.below (below_step HBV.out b8))).mono ?_
    rintro e w9 ⟨rfl, hb9⟩
    have b9 : Below V.heap.size V w9 := below_step b8 hb9
    have b9' : Below V.heap.size V.drew w9 := ⟨b9.os, b9.tape, b9.output, b9.size, b9.block⟩
    refine hK _ _ (fun _ _ => NearC.of (grown_of_below b9' (Nat.le_refl _) _)) ?_
    clear hK K
    refine mix_reads_lit [12, 13] 0 (by kernel_rfl) (by kernel_rfl) (by kernel_rfl) (by kernel_rfl) rfl (NearC.of (grown_of_below b9' (Nat.le_refl _) _)) ?_
    simp only [pick, List.filterMap_cons, List.filterMap_nil, List.getElem?_cons_succ, List.getElem?_cons_zero]
    repeat (first | go_big_quiet_step (fail) | quiet_step (fail))
    refine wpQuiet_nil ?_
    refine mix_done_lit (by kernel_rfl) ?_
    have HB9 := Lib.hid (below_step HBV.out b9)
    clear ho7 hb7 b7 b7' hb8 b8 b8' hb9 b9 b9'
    go_wp2_with fail
    go_ret
    exact ⟨rfl, HB9.out⟩
  | false =>
    obtain ⟨D2, C2, e2, ok2, e3⟩ := Ch.corrupt_away HM1.out HW1.out (id := (j : Int)) (by omega) (by omega) hb2l HOR.out
    have HEC := Lib.hid e2
    have HE3 := Lib.hid e3
    have HOK3 := Lib.hid HM1.out.ok
    have HOK2 := Lib.hid ok2
    clear e2 e3 ok2
    go_upto_region 7 with fail
    refine wp_name fun w3 hW3 => ?_
    have HC3 := Lib.hid (show CIn (More U w1 w2) w3 c dp rg rc (Ch.new M1 3) by rw [hW3]; exact HCN.out)
    have HB3 := Lib.hid (show Below w.heap.size w w3 by rw [hW3]; exact HBW2.out)
    have HX3 := Lib.hid (show BoxAt w3 nb _ by rw [hW3]; exact HX2.out)
    have HU3 := HU2
    clear hW3 x0 x1 x2
    generalize More U w1 w2 = U3 at *
    -- region 7: from world w3 with HC3 : CIn U3 w3 .. C3, HX3 the box, HB3, HU3, HEC : corrupt, HOK3
    have hs3 : w.heap.size ≤ w3.heap.size := HB3.out.size
    obtain ⟨m0, m1, m2⟩ := HC3.out.box.three
    obtain ⟨x0, x1, x2⟩ := HX3.out.three
    obtain ⟨F3, hdd, hHF, hFU, hin⟩ := HC3.out.opened
    have HDD := Lib.hid hdd
    have HHF := Lib.hid hHF
    have HFU := Lib.hid hFU
    have HIN := Lib.hid hin
    clear hdd hHF hFU hin
    have p0 := Near.cell (w := w3.drew) (row := none) (show w3.drew.cell? ⟨c, 0, none⟩ = _ from m0) (by simp)
    have r1 := Near.cell (w := w3.drew) (row := none) (show w3.drew.cell? ⟨nb, 1, none⟩ = _ from x1) (by simp)
    have r2 := Near.cell (w := w3.drew) (row := none) (show w3.drew.cell? ⟨nb, 2, none⟩ = _ from x2) (by simp)
    refine wp_region_mix (fun w' => ∃ x : Near w3.drew none, w' = x.world) [10, 11] 12 (by kernel_rfl) rfl ?_
    refine mix_reads_lit [0, 2, 3, 4, 5, 6, 7, 8, 9] 3 (by kernel_rfl) (by kernel_rfl) (by kernel_rfl) (by kernel_rfl) rfl (NearC.of (World.grownBy.refl _ _)) ?_
    simp only [pick, List.filterMap_cons, List.filterMap_nil, List.getElem?_cons_succ, List.getElem?_cons_zero]
    repeat (first | go_big_quiet_step (fail) | quiet_step (fail))
    refine wpQuiet_nil ?_
    clear p0 r1 r2 m0 m1 m2 x0 x1 x2
    refine mix_deed_lit 1 2 (by kernel_rfl) (by kernel_rfl) rfl (fun K hK => ?_)
    simp only [comesUp, List.getElem?_cons_succ, List.getElem?_cons_zero]
    refine if_mk rfl ?_
    go_simp
    refine (cdisk_is (w := w3.drew) (HC3.out.below (Below.refl _ _).drew).box).mono ?_
    rintro e wz ⟨rfl, rfl⟩
    refine hK _ _ (fun _ hc => hc) ?_
    clear hK K
    refine mix_deed_lit 10 1 (by kernel_rfl) (by kernel_rfl) rfl (fun K hK => ?_)
    simp only [comesUp, List.getElem?_cons_succ, List.getElem?_cons_zero]
    refine if_mk rfl ?_
    go_simp
    refine (corrupt_to HDD.out.drew HOK3.out (HHF.out.more (Nat.le_refl _)) (j : Int) (b2 : Int) mk HEC.out A (show Sents w3.drew A from (HS.out.below HB3.out).below (Below.refl _ _).drew)).mono ?_
    rintro e w5 ⟨F5, l5, v5, rfl, hE5, hd5, hb5, hg5⟩
    obtain ⟨rfl, rfl⟩ := hE5.isNil
    have hb5' : Beside F3 w3 w5 := ⟨hb5.os, hb5.tape, hb5.output, hb5.size, hb5.block⟩
    have hg5' : Grows F3 w3 F5 w5 := hg5
    refine hK _ _ (fun h => by simp [keeps] at h) ?_
    clear hK K
    refine mix_deed_lit 11 0 (by kernel_rfl) (by kernel_rfl) rfl (fun K hK => ?_)
    simp only [comesUp, List.getElem?_cons_succ, List.getElem?_cons_zero]
    refine if_mk rfl ?_
    go_simp
    refine hK _ _ (fun h => by simp [keeps] at h) ?_
    clear hK K
    refine mix_done_lit (by kernel_rfl) ?_
    have HC5 := Lib.hid (HIN.out F5 w5 _ hd5 hb5' hg5')
    have HB5 := Lib.hid (HB3.out.trans ((hb5'.mono HFU.out).below HU3.out hs3))
    have hs5 : w3.heap.size ≤ w5.heap.size := hb5'.size
    have HU5 := Lib.hid (show ∀ k, More U3 w3 w5 k → w.heap.size ≤ k from fun k hk => hk.elim (HU3.out k) fun h => by omega)
    clear hE5 hd5 hb5 hg5 hb5' hg5' HDD HHF HFU HIN
    go_upto_region 10 with (go_at_call 40; (refine (cget_is HC5.out HOK2.out (by omega) (j : Int) HE3.out A (fun wx hx => HS.out.below (HB5.out.trans (hx.below HU5.out (by omega))))).mono ?_); (rintro e w6 ⟨l6, v6, a6, c6, rfl, hE6, hO6, hC6, hB6⟩); (have HE6 := Lib.hid hE6); (have HO6 := Lib.hid hO6); (have HB56 := Lib.hid hB6); (clear hE6 hO6 hC6 hB6))
    have hs6 : w5.heap.size ≤ w6.heap.size := HB56.out.size
    obtain ⟨nc, hnc⟩ : ∃ nc, w6.heap.size = nc := ⟨_, rfl⟩
    refine wp_name fun V hV => ?_
    have hbV : Below w6.heap.size w6 V := by rw [hV]; exact (Below.refl _ _).alloc (Nat.le_refl _) _
    have HXV := Lib.hid (show BoxAt V nc [.int .i64 0, .int .i64 0, .int .u64 0, .slice a6 0 c6] by rw [hV]; exact BoxAt.newAt _ _ hnc [_, _, _, _] _)
    have HOV := Lib.hid (show Own V w5.heap.size (.slice a6 0 c6) [] from HO6.out.below hbV (Nat.le_refl _))
    have HEV := Lib.hid (HE6.out.below hbV)
    have HBV := Lib.hid ((HB5.out.trans (HB56.out.below HU5.out (by omega))).trans (hbV.mono (by omega)))
    clear hV hbV
    rw [hnc]
    clear hnc
    obtain ⟨y0, y1, y2, y3⟩ := HXV.out.four
    have HSM := Lib.hid (show Calls Tryd.prog 46 #[.agg #[.int .i64 0, .int .i64 0, .int .u64 0, .slice a6 0 c6], .agg #[.int .i64 0, .int .i64 0, .int .u64 0, .slice none 0 0]] V (fun e w' => e = .returned (.bool true) ∧ Below V.heap.size V w') by
      have := refSame_any Pg.zero Pg.zero (.slice a6 0 c6) (.slice none 0 0) V HOV.out.bytes (BytesAt.nil V)
      rwa [pageEq_self] at this)
    go_wp2_with (first
      | (go_at_call 44; (refine (tells08_any (HS.out.below HBV.out) _ 5 _ HEV.out 5 rfl).mono ?_); (rintro e w8 ⟨rfl, rfl⟩))
      | (go_at_call 46; (refine HSM.out.mono ?_); (rintro e w8 ⟨rfl, hb8⟩); (have HB8 := Lib.hid (below_step HBV.out hb8)); (clear hb8))
      | (go_at_call 42; (refine (awake08_any _ A (HS.out.below HB8.out)).mono ?_); (rintro e w9 ⟨rfl, hb9⟩); (have HB9 := Lib.hid (below_step HB8.out hb9)); (clear hb9)))
    go_ret
    exact ⟨rfl, HB9.out⟩
end Go.Proofs.YtflbioiildndoaaDoor

