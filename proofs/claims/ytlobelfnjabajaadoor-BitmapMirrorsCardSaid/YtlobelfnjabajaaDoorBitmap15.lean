/- bitmaps: the walk of BitmapMirrors -/
import Derived.Test.YtlobelfnjabajaaDoorBitmap12
namespace Go.Proofs.YtlobelfnjabajaaDoor
open Go.RowKit
set_option linter.unusedVariables false
set_option linter.unusedSimpArgs false

theorem mapChoose_is15 (mp : Bm.Map) (bad : List Int) (k : Nat) (a1 a2 : Option Addr) (c1 c2 : Nat) (l m : List UInt8) (gen : Nat) (blocks : Int) (hT : mapChooseT l m gen blocks = (mp, bad, k)) (w : World) (A : Nat → Addr) {S : Nat → Prop} [Has S 1] [Has S 2] [Has S 5] (hs : SentsOn S w A) (hb1 : BytesAt w (.slice a1 l.length c1) l) (hb2 : BytesAt w (.slice a2 m.length c2) m) (hg : gen < 18446744073709551616) :
    Calls Tryd.prog 34 #[.slice a1 l.length c1, .slice a2 m.length c2, .int .u64 (gen : Int), .int .i64 blocks] w fun e w' => (∃ a c a' n' c' ev lp, e = .returned (.tuple #[.agg #[.int .u64 (mp.gen : Int), .int .i64 mp.blocks, .slice a mp.used.length c], .slice a' n' c', ev]) ∧ OwnI w' w.heap.size (.slice a mp.used.length c) mp.used ∧ IntsAt w' (.slice a' n' c') bad ∧ ErrIs w' A w.heap.size lp k ev ∧ pageOf lp = -1 ∧ lp.length ≤ 1) ∧ Below w.heap.size w w' := by
  refine (mapChoose_any a1 a2 c1 c2 l m gen blocks w A hs hb1 hb2 hg).mono fun e w' ⟨h, hb⟩ => ⟨?_, hb⟩
  rw [hT] at h
  obtain ⟨a, c, v, ev, lp, he, ho, hi, r⟩ := h
  obtain ⟨a', c', rfl, q⟩ := hi
  exact ⟨a, c, a', _, c', ev, lp, he, ho, ⟨a', c', rfl, q⟩, r⟩
theorem sameInts_is15 (v1 v2 : Value) (l1 l2 : List Int) (t : Bool) (ht : (l1 == l2) = t) (w : World) (h1 : IntsAt w v1 l1) (h2 : IntsAt w v2 l2) :
    Calls Tryd.prog 36 #[v1, v2] w fun e w' => e = .returned (.bool t) ∧ Below w.heap.size w w' := by subst ht; exact sameInts_any v1 v2 l1 l2 w h1 h2
theorem mapSame_is15 (p q : Bm.Map) (B : Bool) (hB : mapEq p q = B) (s1 s2 : Value) (w : World) (h1 : IntsAt w s1 p.used) (h2 : IntsAt w s2 q.used) :
    Calls Tryd.prog 35 #[.agg #[.int .u64 (p.gen : Int), .int .i64 p.blocks, s1], .agg #[.int .u64 (q.gen : Int), .int .i64 q.blocks, s2]] w fun e w' => e = .returned (.bool B) ∧ Below w.heap.size w w' := by subst hB; exact mapSame_any p q s1 s2 w h1 h2
theorem u16_nat {n : Int} (h : (Lit.int .u16 n).wf = true) : ∃ m : Nat, n = (m : Int) ∧ m < 65536 := by
  have hx : 0 ≤ n ∧ n ≤ 65535 := by simpa [Lit.wf, IntKind.min, IntKind.max, IntKind.signed, IntKind.bits] using h
  exact ⟨n.toNat, by omega, by omega⟩
theorem bits_or_one (a : BitVec 32) : bits .or .u32 (a.toNat : Int) 1 = ((a ||| 1#32).toNat : Int) := by
  show IntKind.u32.wrap ((BitVec.ofInt 32 (a.toNat : Int) ||| BitVec.ofInt 32 1).toNat : Int) = _
  rw [BitVec.ofInt_natCast, BitVec.ofNat_toNat, BitVec.setWidth_eq]
  exact wrap_u32_nat _ (a ||| 1#32).isLt
theorem changed_first (l : List UInt8) (bit : Nat) (mask : BitVec 32) (h0 : mask.getLsbD 0 = true) : ∀ k, (Crc.bitsOf (changed l bit mask (k + 1)))[bit]? = ((Crc.bitsOf l)[bit]?).map (! ·)
  | 0 => by
    simp only [changed, h0, if_true]
    rw [flip_bits, if_pos (by omega)]
  | k + 1 => by
    have ih := changed_first l bit mask h0 k
    rw [changed]
    split
    · rw [flip_bits, if_neg (by omega)]; exact ih
    · exact ih
theorem changed_ne (l : List UInt8) (bit : Nat) (mask : BitVec 32) (h0 : mask.getLsbD 0 = true) (hb : bit / 8 < l.length) : l ≠ changed l bit mask 32 := by
  intro h
  have h1 := changed_first l bit mask h0 31
  rw [← h, Crc.bitsOf_get, List.getElem?_eq_getElem hb] at h1
  simp at h1
theorem or_one_bit (a : BitVec 32) : (a ||| 1#32).getLsbD 0 = true := by
  rw [BitVec.getLsbD_or]
  simp
/-- a block that was changed by a burst opens not -/
theorem burst_open {L : List UInt8} (h : Pg.opens L) (bit : Nat) (mask : BitVec 32) (hne : L ≠ changed L bit mask 32) : ¬ Pg.opens (changed L bit mask 32) := by
  intro h2
  exact hne (changed_sum L bit mask ((Pg.sum_opens h).trans (Pg.sum_opens h2).symm))
theorem mapSeal_burst {m : Bm.Map} {at_ : Int} (hr : Bm.Right m) (ho : Bm.one m.gen at_) (hg : m.gen < 18446744073709551616) (bit : Nat) (mask : BitVec 32) (h0 : mask.getLsbD 0 = true) (hb : bit < 2048) (b : Int) (gen : Nat) (blocks : Int) :
    Bm.bmOpen (changed (Bm.sealB m at_ 256) bit mask 32) b gen blocks = none := by
  have hl := Bm.seal_len (at_ := at_) (size := 256) hr (by decide)
  exact Bm.open_not (burst_open (Bm.read_sealB hr ho (by decide) hg).1 bit mask (changed_ne _ bit mask h0 (by omega)))
theorem changed_is (v : Value) (l N : List UInt8) (bit : Nat) (X : Int) (mask : BitVec 32) (hN : changed l bit mask 32 = N) (hX : X = (mask.toNat : Int)) (w : World) (hb : BytesAt w v l) (hlen : l.length = 256) (hbit : bit ≤ 9223372036854775000) :
    Calls Tryd.prog 33 #[v, .int .i64 bit, .int .u32 X] w fun e w' => (∃ a c, e = .returned (.slice a N.length c) ∧ BytesAt w' (.slice a N.length c) N) ∧ Below w.heap.size w w' := by
  subst hN hX
  refine (changed_any v l bit mask w hb (by omega) hbit).mono fun e w' ⟨⟨v', he, ho⟩, hb⟩ => ⟨?_, hb⟩
  obtain ⟨a, c, rfl, -, -⟩ := ho.slice
  exact ⟨a, c, he, ho.bytes⟩
set_option maxRecDepth 100000 in
set_option maxHeartbeats 8000000 in
theorem bitmapMirrors_walk (m : Bm.Map) (a0 : Option Addr) (c0 : Nat) (bit : Nat) (mask : BitVec 32) (w : World) (A : Nat → Addr) {S : Nat → Prop} [Has S 1] [Has S 2] [Has S 5] (hs : SentsOn S w A) (hu : IntsAt w (.slice a0 m.used.length c0) m.used) (hg : m.gen < 18446744073709551616) (hbit : bit < 65536) :
    Calls Tryd.prog 7 #[.agg #[.int .u64 (m.gen : Int), .int .i64 m.blocks, .slice a0 m.used.length c0], .int .u16 (bit : Int), .int .u32 (mask.toNat : Int)] w fun e w' => e = .returned (.bool true) ∧ Below w.heap.size w w' := by
  have hul : m.used.length ≤ 9223372036854775807 := by
    obtain ⟨a', c', e, q1, q2, _⟩ := hu
    unfold maxLen at q2
    omega
  have HS := Lib.hid hs
  have HU := Lib.hid hu
  clear hs hu
  by_cases h400 : 400 < m.used.length
  · obtain ⟨gen, blocks, used⟩ := m
    simp only at *
    have h4 : 400 < (used.length : Int) := by omega
    go_enter Tryd.func7, Tryd.ntmps7
    go_wp2_with (go_at_call 30; (refine (mapAwake_any _ A (HS.out.below (by go_grown))).mono ?_); (rintro e w1 ⟨rfl, hb1⟩); (have HB1 := Lib.hid ((show Below w.heap.size w _ by go_grown).trans (hb1.mono (by simp)))); (clear hb1))
    go_ret
    exact ⟨rfl, HB1.out⟩
  by_cases hr : Bm.Right m
  · have HRD := Lib.hid (show decide (Bm.Right m) = true by simpa using hr)
    obtain ⟨F, hF⟩ : ∃ F, Bm.first m.gen = F := ⟨_, rfl⟩
    have HF := Lib.hid hF
    have hF2 := first_two hF
    have hFb : 2 ≤ F ∧ F ≤ 4 := by omega
    have ho1 : Bm.one m.gen F := by unfold Bm.one; rw [hF]; exact .inl rfl
    have ho2 : Bm.one m.gen (F + 1) := by unfold Bm.one; rw [hF]; exact .inr rfl
    have hs3 : 256 ≤ 256 ∧ 256 ≤ 1024 := by decide
    have hk1 : Bm.sealC m F ((256 : Nat) : Int) = 0 := by unfold Bm.sealC; rw [if_pos hr, if_pos ⟨ho1, by decide, by decide⟩]
    have hk2 : Bm.sealC m (F + 1) ((256 : Nat) : Int) = 0 := by unfold Bm.sealC; rw [if_pos hr, if_pos ⟨ho2, by decide, by decide⟩]
    obtain ⟨mk, hmk⟩ : ∃ mk : BitVec 32, mask ||| 1#32 = mk := ⟨_, rfl⟩
    have hm0 : mk.getLsbD 0 = true := by rw [← hmk]; exact or_one_bit mask
    have hor : bits .or .u32 (mask.toNat : Int) 1 = (mk.toNat : Int) := by rw [bits_or_one, hmk]
    obtain ⟨bt, hbt⟩ : ∃ bt : Nat, bit % 2048 = bt := ⟨_, rfl⟩
    have hbt8 : bt < 2048 := by omega
    have hbi : (bit : Int) % 2048 = (bt : Int) := by omega
    have hbtm : (bit : Int).tmod 2048 = (bt : Int) := by rw [Int.tmod_eq_emod_of_nonneg (by omega)]; exact hbi
    have hwb : IntKind.u16.wrap (bt : Int) = (bt : Int) := by rw [IntKind.wrap_u16]; omega
    obtain ⟨L1, hL1⟩ : ∃ L, Bm.sealB m F 256 = L := ⟨_, rfl⟩
    obtain ⟨L2, hL2⟩ : ∃ L, Bm.sealB m (F + 1) 256 = L := ⟨_, rfl⟩
    obtain ⟨N1, hN1⟩ : ∃ N, changed L1 bt mk 32 = N := ⟨_, rfl⟩
    obtain ⟨N2, hN2⟩ : ∃ N, changed L2 bt mk 32 = N := ⟨_, rfl⟩
    have e1 : Bm.bmOpen L1 F m.gen m.blocks = some m := by rw [← hL1]; exact Bm.open_seal hr ho1 hs3 hg
    have e2 : Bm.bmOpen L2 (F + 1) m.gen m.blocks = some m := by rw [← hL2]; exact Bm.open_seal hr ho2 hs3 hg
    have e3 : Bm.bmOpen N1 F m.gen m.blocks = none := by rw [← hN1, ← hL1]; exact mapSeal_burst hr ho1 hg bt mk hm0 hbt8 _ _ _
    have e4 : Bm.bmOpen N2 (F + 1) m.gen m.blocks = none := by rw [← hN2, ← hL2]; exact mapSeal_burst hr ho2 hg bt mk hm0 hbt8 _ _ _
    have HC1 := Lib.hid (show mapChooseT N1 L2 m.gen m.blocks = (m, [F], 0) by unfold mapChooseT; rw [hF, e3, e2])
    have HC2 := Lib.hid (show mapChooseT L1 N2 m.gen m.blocks = (m, [F + 1], 0) by unfold mapChooseT; rw [hF, e1, e4])
    have hlen1 : L1.length = 256 := by rw [← hL1]; exact Bm.seal_len hr (by decide)
    have hlen2 : L2.length = 256 := by rw [← hL2]; exact Bm.seal_len hr (by decide)
    have HLEN1 := Lib.hid hlen1
    have HLEN2 := Lib.hid hlen2
    have HK1 := Lib.hid hk1
    have HK2 := Lib.hid hk2
    have HL1 := Lib.hid hL1
    have HL2 := Lib.hid hL2
    have HN1 := Lib.hid hN1
    have HN2 := Lib.hid hN2
    have HME := Lib.hid (mapEq_self m)
    have HOR := Lib.hid hor
    have HBF := Lib.hid (show ([F] == [F]) = true by simp)
    have HBF1 := Lib.hid (show ([F + 1] == [F + 1]) = true by simp)
    clear hr hF hF2 ho1 ho2 hs3 hk1 hk2 hmk hm0 hbt hL1 hL2 hN1 hN2 e1 e2 e3 e4 hlen1 hlen2
    obtain ⟨gen, blocks, used⟩ := m
    simp only at *
    have h4 : (used.length : Int) ≤ 400 := by omega
    go_enter Tryd.func7, Tryd.ntmps7
    go_upto_region 4 with (first
      | (go_at_call 29; (refine (of_any gen blocks a0 used.length c0 _).mono ?_); (rintro e w1 ⟨rfl, hb1⟩); (have HX1 := Lib.hid ((BoxAt.new w [.int .u64 (gen : Int), .int .i64 blocks, .slice a0 used.length c0] 50).below hb1)); (have HB1 := Lib.hid ((show Below w.heap.size w _ by go_grown).trans (hb1.mono (by simp)))); (clear hb1))
      | (go_at_call 28; (refine (refMapRight_is ⟨gen, blocks, used⟩ _ HRD.out a0 c0 _ (HU.out.below HB1.out)).mono ?_); (rintro e w2 ⟨rfl, hb2⟩); (have HB2 := Lib.hid (below_step HB1.out hb2)); (have HX2 := Lib.hid (HX1.out.below hb2)); (obtain ⟨m0, m1, m2⟩ := HX2.out.three); (clear hb2))
      | (go_at_call 31; (refine (places_is gen F HF.out hg _).mono ?_); (rintro e w3 ⟨rfl, hb3⟩); (have HB3 := Lib.hid (below_step HB2.out hb3)); (have HX3 := Lib.hid (HX2.out.below hb3)); (clear hb3)))
    refine wp_name fun W hW => ?_
    have HX := Lib.hid (show BoxAt W w.heap.size [.int .u64 (gen : Int), .int .i64 blocks, .slice a0 used.length c0] by rw [hW]; exact HX3.out.alloc _)
    have HP := Lib.hid (show BoxAt W w3.heap.size [.int .i64 F, .int .i64 (F + 1)] by rw [hW]; exact BoxAt.new w3 [_, _] _)
    have HB := Lib.hid (show Below w.heap.size w W by rw [hW]; exact HB3.out.alloc HB3.out.size _)
    clear hW m0 m1 m2
    obtain ⟨m0, m1, m2⟩ := HX.out.three
    obtain ⟨p0, p1⟩ := HP.out.two
    go_upto_region 5 with (go_at_call 32; (refine (mapSeal_ok ⟨gen, blocks, used⟩ F 256 L1 HL1.out a0 c0 _ A (HS.out.below HB.out) (HU.out.below HB.out) hg HK1.out).mono ?_); (rintro e w4 ⟨⟨a4, c4, rfl, ho4⟩, hb4⟩); (have HX4 := Lib.hid (HX.out.below hb4)); (have HP4 := Lib.hid (HP.out.below hb4)); (have HB4 := Lib.hid (below_step HB.out hb4)); (have HA4 := Lib.hid ho4.bytes); (clear ho4 hb4))
    clear m0 m1 m2 p0 p1
    obtain ⟨m0, m1, m2⟩ := HX4.out.three
    obtain ⟨p0, p1⟩ := HP4.out.two
    go_upto_region 8 with (go_at_call 32; (refine (mapSeal_ok ⟨gen, blocks, used⟩ (F + 1) 256 L2 HL2.out a0 c0 _ A (HS.out.below HB4.out) (HU.out.below HB4.out) hg HK2.out).mono ?_); (rintro e w5 ⟨⟨a5, c5, rfl, ho5⟩, hb5⟩); (have HX5 := Lib.hid (HX4.out.below hb5)); (have HP5 := Lib.hid (HP4.out.below hb5)); (have HB5 := Lib.hid (below_step HB4.out hb5)); (have HA5 := Lib.hid (HA4.out.below hb5)); (have HD5 := Lib.hid ho5.bytes); (clear ho5 hb5))
    go_upto_region 9 with (go_at_call 33; (refine (changed_is _ L1 N1 bt _ mk HN1.out rfl _ HA5.out HLEN1.out (by omega)).mono ?_); (rintro e w6 ⟨⟨a6, c6, rfl, ho6⟩, hb6⟩); (have HX6 := Lib.hid (HX5.out.below hb6)); (have HP6 := Lib.hid (HP5.out.below hb6)); (have HB6 := Lib.hid (below_step HB5.out hb6)); (have HA6 := Lib.hid (HA5.out.below hb6)); (have HD6 := Lib.hid (HD5.out.below hb6)); (have HM6 := Lib.hid ho6); (clear ho6 hb6))
    go_upto_region 10 with (go_at_call 33; (refine (changed_is _ L2 N2 bt _ mk HN2.out rfl _ HD6.out HLEN2.out (by omega)).mono ?_); (rintro e w7 ⟨⟨a7, c7, rfl, ho7⟩, hb7⟩); (have HX7 := Lib.hid (HX6.out.below hb7)); (have HP7 := Lib.hid (HP6.out.below hb7)); (have HB7 := Lib.hid (below_step HB6.out hb7)); (have HA7 := Lib.hid (HA6.out.below hb7)); (have HD7 := Lib.hid (HD6.out.below hb7)); (have HM7 := Lib.hid (HM6.out.below hb7)); (have HQ7 := Lib.hid ho7); (clear ho7 hb7))
    clear m0 m1 m2 p0 p1
    obtain ⟨m0, m1, m2⟩ := HX7.out.three
    go_upto_region 11 with (go_at_call 34; (refine (mapChoose_is15 ⟨gen, blocks, used⟩ [F] 0 a6 a5 c6 c5 N1 L2 gen blocks HC1.out _ A (HS.out.below HB7.out) HM7.out HD7.out hg).mono ?_); (rintro e w8 ⟨⟨b8, d8, e8, n8, f8, ev8, lp8, rfl, ho8, hi8, hE8, -, -⟩, hb8⟩); (obtain ⟨rfl, rfl⟩ := hE8.isNil))
    refine wp_name fun V hV => ?_
    have hbV : Below w7.heap.size w7 V := by rw [hV]; exact hb8.alloc hb8.size _
    have hbV8 : Below w8.heap.size w8 V := by rw [hV]; exact (Below.refl _ _).alloc (Nat.le_refl _) _
    have HXV := Lib.hid (HX7.out.below hbV)
    have HPV := Lib.hid (HP7.out.below hbV)
    have HBV := Lib.hid (below_step HB7.out hbV)
    have HAV := Lib.hid (HA7.out.below hbV)
    have HQV := Lib.hid (HQ7.out.below hbV)
    have HIV := Lib.hid (hi8.below hbV8)
    have HJV := Lib.hid (ho8.ints.below hbV8)
    have HNV := Lib.hid (show BoxAt V w8.heap.size [.int .u64 (gen : Int), .int .i64 blocks, .slice b8 used.length d8] by rw [hV]; exact BoxAt.new w8 [_, _, _] _)
    clear hV hbV hbV8 m0 m1 m2 ho8 hi8 hE8 hb8
    obtain ⟨m0, m1, m2⟩ := HXV.out.three
    go_upto_region 12 with (go_at_call 34; (refine (mapChoose_is15 ⟨gen, blocks, used⟩ [F + 1] 0 a4 a7 c4 c7 L1 N2 gen blocks HC2.out _ A (HS.out.below HBV.out) HAV.out HQV.out hg).mono ?_); (rintro e w9 ⟨⟨b9, d9, e9, n9, f9, ev9, lp9, rfl, ho9, hi9, hE9, -, -⟩, hb9⟩); (obtain ⟨rfl, rfl⟩ := hE9.isNil))
    refine wp_name fun U hU => ?_
    have hbU : Below V.heap.size V U := by rw [hU]; exact hb9.alloc hb9.size _
    have hbU9 : Below w9.heap.size w9 U := by rw [hU]; exact (Below.refl _ _).alloc (Nat.le_refl _) _
    have HXU := Lib.hid (HXV.out.below hbU)
    have HPU := Lib.hid (HPV.out.below hbU)
    have HBU := Lib.hid (below_step HBV.out hbU)
    have HIU := Lib.hid (HIV.out.below hbU)
    have HJU := Lib.hid (HJV.out.below hbU)
    have HNU := Lib.hid (HNV.out.below hbU)
    have HKU := Lib.hid (hi9.below hbU9)
    have HLU := Lib.hid (ho9.ints.below hbU9)
    have HOU := Lib.hid (show BoxAt U w9.heap.size [.int .u64 (gen : Int), .int .i64 blocks, .slice b9 used.length d9] by rw [hU]; exact BoxAt.new w9 [_, _, _] _)
    clear hU hbU hbU9 m0 m1 m2 ho9 hi9 hE9 hb9
    obtain ⟨m0, m1, m2⟩ := HXU.out.three
    obtain ⟨x0, x1, x2⟩ := HNU.out.three
    go_wp2_with (first
      | (go_at_call 30; (refine (mapAwake_any _ A (HS.out.below HB13.out)).mono ?_); (rintro e w14 ⟨rfl, hb14⟩); (have HB14 := Lib.hid (below_step HB13.out hb14)); (clear hb14))
      | (go_at_call 36; (refine (sameInts_is15 _ _ [F + 1] [F + 1] true HBF1.out _ HK12.out (two_ints HP12.out).2.2).mono ?_); (rintro e w13 ⟨rfl, hb13⟩); (have HB13 := Lib.hid (below_step HB12.out hb13)); (clear hb13))
      | (go_at_call 36; (refine (sameInts_is15 _ _ [F] [F] true HBF.out _ HI11.out (two_ints HP11.out).2.1).mono ?_); (rintro e w12 ⟨rfl, hb12⟩); (have HB12 := Lib.hid (below_step HB11.out hb12)); (have HK12 := Lib.hid (HK11.out.below hb12)); (have HP12 := Lib.hid (HP11.out.below hb12)); (clear hb12))
      | (go_at_call 35; (refine (mapSame_is15 ⟨gen, blocks, used⟩ ⟨gen, blocks, used⟩ true HME.out _ _ _ HL10.out (HU.out.below HB10.out)).mono ?_); (rintro e w11 ⟨rfl, hb11⟩); (have HB11 := Lib.hid (below_step HB10.out hb11)); (have HI11 := Lib.hid (HI10.out.below hb11)); (have HK11 := Lib.hid (HK10.out.below hb11)); (have HP11 := Lib.hid (HP10.out.below hb11)); (clear hb11))
      | (go_at_call 35; (refine (mapSame_is15 ⟨gen, blocks, used⟩ ⟨gen, blocks, used⟩ true HME.out _ _ _ HJU.out (HU.out.below HBU.out)).mono ?_); (rintro e w10 ⟨rfl, hb10⟩); (have HB10 := Lib.hid (below_step HBU.out hb10)); (have HI10 := Lib.hid (HIU.out.below hb10)); (have HK10 := Lib.hid (HKU.out.below hb10)); (have HL10 := Lib.hid (HLU.out.below hb10)); (have HP10 := Lib.hid (HPU.out.below hb10)); (obtain ⟨y0, y1, y2⟩ := (HOU.out.below hb10).three); (obtain ⟨k0, k1, k2⟩ := (HXU.out.below hb10).three); (clear hb10)))
    go_ret
    exact ⟨rfl, HB14.out⟩
  · have HRD := Lib.hid (show decide (Bm.Right m) = false by simpa using hr)
    clear hr
    obtain ⟨gen, blocks, used⟩ := m
    simp only at *
    have h4 : (used.length : Int) ≤ 400 := by omega
    go_enter Tryd.func7, Tryd.ntmps7
    go_wp2_with (first
      | (go_at_call 29; (refine (of_any gen blocks a0 used.length c0 _).mono ?_); (rintro e w1 ⟨rfl, hb1⟩); (have HB1 := Lib.hid ((show Below w.heap.size w _ by go_grown).trans (hb1.mono (by simp)))); (clear hb1))
      | (go_at_call 28; (refine (refMapRight_is ⟨gen, blocks, used⟩ _ HRD.out a0 c0 _ (HU.out.below HB1.out)).mono ?_); (rintro e w2 ⟨rfl, hb2⟩); (have HB2 := Lib.hid (below_step HB1.out hb2)); (clear hb2))
      | (go_at_call 30; (refine (mapAwake_any _ A (HS.out.below HB2.out)).mono ?_); (rintro e w3 ⟨rfl, hb3⟩); (have HB3 := Lib.hid (below_step HB2.out hb3)); (clear hb3)))
    go_ret
    exact ⟨rfl, HB3.out⟩
end Go.Proofs.YtlobelfnjabajaaDoor
