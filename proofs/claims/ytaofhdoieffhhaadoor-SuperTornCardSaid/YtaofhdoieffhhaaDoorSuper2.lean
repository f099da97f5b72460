/- superblocks: super.Check, super.Place, super.Seal -/
import Derived.Test.YtaofhdoieffhhaaDoorSuper
import Derived.Test.YtaofhdoieffhhaaDoorPageSeal
import Derived.Deep.DeepCutAuto
namespace Go.Proofs.YtaofhdoieffhhaaDoor
open Go.RowKit
set_option linter.unusedVariables false
set_option linter.unusedSimpArgs false

/-- why a superblock is not right -/
def supC (s : Su.Sup) : Nat := if Su.right s = true then 0 else 1
set_option maxRecDepth 100000 in
set_option maxHeartbeats 2000000 in
theorem superCheck_any (s : Su.Sup) (w : World) (A : Nat → Addr) {S : Nat → Prop} [Has S 1] (hs : SentsOn S w A) :
    Calls Tryd.prog 32 #[.agg #[.int .u64 (s.gen : Int), .int .i64 s.blocks, .int .i64 s.size, .int .i64 s.root, .int .i64 s.keys]] w fun e w' => ToldErr A w.heap.size (supC s) e w' ∧ Below w.heap.size w w' := by
  have g1 : w.cell? ⟨2, 0, none⟩ = some (.iface 136 (.pointer (some (A 1)))) := hs.cell 1 (by decide) (by decide)
  have l1 := World.block_lt_of_cell? w _ g1
  simp only at l1
  have HG1 := Lib.hid g1
  clear hs g1
  have HW := right_ways s
  have HC := Lib.hid (show supC s = if Su.right s = true then 0 else 1 from rfl)
  generalize supC s = K at *
  obtain ⟨gen, blocks, size, root, keys⟩ := s
  simp only at *
  generalize hR : Su.right ⟨gen, blocks, size, root, keys⟩ = R at *
  clear hR
  generalize hG : Su.rightG blocks size = G at *
  have HG := Lib.hid hG
  clear hG
  rcases HW with ⟨rfl, rfl⟩ | ⟨rfl, h1, rfl⟩ | ⟨rfl, h1, h2, rfl⟩ | ⟨rfl, h1, h2, rfl, rfl, rfl⟩ | ⟨rfl, h1, h2, rfl, h3, rfl⟩ | ⟨rfl, h1, h2, h3, h4, rfl⟩ | ⟨rfl, h1, h2, h3, h4, h5, rfl⟩ | ⟨rfl, h1, h2, h3, h4, h5, rfl⟩
  all_goals
    go_enter Tryd.func32, Tryd.ntmps32
    go_wp2_with (first
      | (go_at_call 56; (refine (blockRight_is _ _ _ HG.out _).mono ?_); (rintro e w1 ⟨rfl, hb1⟩); (have HBW := Lib.hid ((show Below w.heap.size w _ by go_grown).trans (hb1.mono (by simp)))); (have g12 := (HBW.out.cell (p := ⟨2, 0, none⟩) l1).trans HG1.out); (obtain ⟨m0, m1, m2, m3, m4⟩ := ((BoxAt.new w [.int .u64 (gen : Int), .int .i64 blocks, .int .i64 size, .int .i64 _, .int .i64 _] 48).below hb1).five); (clear hb1))
      | (go_at_call 45; (refine (faultNew_any _ 1 _ _ A _ (sent_err 1 (by decide) (by decide)) (by decide) (Nat.le_refl _)).mono ?_); (rintro e w2 ⟨⟨v, rfl, hv⟩, hb2⟩); (have HB2 := Lib.hid (below_step HBW.out hb2)); (have HV := Lib.hid (hv.mono (HBW.out.size))); (clear hv hb2)))
    go_ret
    first
      | exact ⟨⟨_, [-1], rfl, by rw [HC.out]; exact HV.out⟩, HB2.out⟩
      | exact ⟨⟨_, [], rfl, by rw [HC.out]; exact ErrIs.nil _ _ _⟩, HBW.out⟩

/-- a number's lowest bit -/
theorem bits_and_one (n : Nat) (h : n < 18446744073709551616) : bits .and .u64 (n : Int) 1 = ((n % 2 : Nat) : Int) := by
  show IntKind.u64.wrap ((BitVec.ofInt 64 (n : Int) &&& BitVec.ofInt 64 1).toNat : Int) = _
  rw [BitVec.ofInt_natCast]
  rw [show BitVec.ofInt 64 1 = BitVec.ofNat 64 1 from rfl, BitVec.toNat_and, BitVec.toNat_ofNat, BitVec.toNat_ofNat, Nat.mod_eq_of_lt h]
  rw [show (1 % 2 ^ 64 : Nat) = 1 from rfl, Nat.and_one_is_mod]
  rw [IntKind.wrap_u64]
  omega
theorem superPlace_any (n : Nat) (h : n < 18446744073709551616) (w : World) :
    Calls Tryd.prog 33 #[.int .u64 (n : Int)] w fun e w' => e = .returned (.int .i64 ((n % 2 : Nat) : Int)) ∧ w = w' := by
  have hb := bits_and_one n h
  have hm : n % 2 < 2 := Nat.mod_lt _ (by decide)
  generalize n % 2 = m at *
  have hm1 : (m : Int) ≤ 1 := by omega
  clear h
  go_enter Tryd.func33, Tryd.ntmps33
  go_wp2
  go_ret
  exact ⟨rfl, rfl⟩

theorem Tryd.four (a b c d : Value) (w : World) :
    (Instr.index 88 (.agg #[a, b, c, d]) (.int .i64 0)).run Tryd.prog w = .ok a w ∧
    (Instr.index 88 (.agg #[a, b, c, d]) (.int .i64 1)).run Tryd.prog w = .ok b w ∧
    (Instr.index 88 (.agg #[a, b, c, d]) (.int .i64 2)).run Tryd.prog w = .ok c w ∧
    (Instr.index 88 (.agg #[a, b, c, d]) (.int .i64 3)).run Tryd.prog w = .ok d w :=
  ⟨by kernel_rfl, by kernel_rfl, by kernel_rfl, by kernel_rfl⟩

def spre (b s r k : Nat) : Nat → List UInt8
  | 0 => []
  | 1 => Fld.le 4 b
  | 2 => Fld.le 4 b ++ Fld.le 4 s
  | 3 => Fld.le 4 b ++ Fld.le 4 s ++ Fld.le 4 r
  | _ => Fld.le 4 b ++ Fld.le 4 s ++ Fld.le 4 r ++ Fld.le 4 k
theorem spre_length (b s r k j : Nat) (h : j ≤ 4) : (spre b s r k j).length ≤ 16 := by
  rcases (show j = 0 ∨ j = 1 ∨ j = 2 ∨ j = 3 ∨ j = 4 by omega) with rfl | rfl | rfl | rfl | rfl <;> simp [spre, Fld.le_length]
theorem superCheck_ok (s : Su.Sup) (h : Su.right s = true) (w : World) (A : Nat → Addr) {S : Nat → Prop} [Has S 1] (hs : SentsOn S w A) :
    Calls Tryd.prog 32 #[.agg #[.int .u64 (s.gen : Int), .int .i64 s.blocks, .int .i64 s.size, .int .i64 s.root, .int .i64 s.keys]] w fun e w' => e = .returned .nilIface ∧ Below w.heap.size w w' :=
  (superCheck_any s w A hs).mono fun e w' ⟨⟨v, l, he, hE⟩, hb⟩ => by
    rw [show supC s = 0 by unfold supC; rw [if_pos h]] at hE
    obtain ⟨rfl, _⟩ := hE.isNil
    exact ⟨he, hb⟩
theorem superCheck_bad (s : Su.Sup) (h : Su.right s = false) (w : World) (A : Nat → Addr) {S : Nat → Prop} [Has S 1] (hs : SentsOn S w A) :
    Calls Tryd.prog 32 #[.agg #[.int .u64 (s.gen : Int), .int .i64 s.blocks, .int .i64 s.size, .int .i64 s.root, .int .i64 s.keys]] w fun e w' => (∃ t x l, e = .returned (.iface t x) ∧ ErrIs w' A w.heap.size l 1 (.iface t x)) ∧ Below w.heap.size w w' :=
  (superCheck_any s w A hs).mono fun e w' ⟨⟨v, l, he, hE⟩, hb⟩ => by
    rw [show supC s = 1 by unfold supC; rw [if_neg (by rw [h]; decide)]] at hE
    obtain ⟨t, x, rfl⟩ := hE.iface (by decide)
    exact ⟨⟨t, x, l, he, hE⟩, hb⟩

/-- why there is no block of a superblock -/
def supSealC (s : Su.Sup) (at_ : Int) : Nat := if Su.right s = true then (if at_ = 0 ∨ at_ = 1 then 0 else 2) else 1
set_option maxRecDepth 100000 in
set_option maxHeartbeats 2000000 in
theorem superSeal_bad (s : Su.Sup) (at_ : Int) (w : World) (A : Nat → Addr) {S : Nat → Prop} [Has S 1] [Has S 2] [Has S 5] (hs : SentsOn S w A) (h : supSealC s at_ ≠ 0) :
    Calls Tryd.prog 28 #[.agg #[.int .u64 (s.gen : Int), .int .i64 s.blocks, .int .i64 s.size, .int .i64 s.root, .int .i64 s.keys], .int .i64 at_] w fun e w' => (∃ t x l, e = .returned (.tuple #[.slice none 0 0, .iface t x]) ∧ ErrIs w' A w.heap.size l (supSealC s at_) (.iface t x)) ∧ Below w.heap.size w w' := by
  have HS := Lib.hid hs
  have g2 : w.cell? ⟨0, 0, none⟩ = some (.iface 136 (.pointer (some (A 2)))) := hs.cell 2 (by decide) (by decide)
  have l2 := World.block_lt_of_cell? w _ g2
  simp only at l2
  have HG2 := Lib.hid g2
  clear hs g2
  cases hr : Su.right s with
  | false =>
    have HC : Hid (supSealC s at_ = 1) := Lib.hid (by unfold supSealC; rw [if_neg (by rw [hr]; decide)])
    have HR := Lib.hid hr
    clear hr h
    go_enter Tryd.func28, Tryd.ntmps28
    go_wp2_with (first
      | (go_at_call 32; (refine (superCheck_bad s HR.out _ A (HS.out.below (by go_grown))).mono ?_); (rintro e w1 ⟨⟨t, x, l, rfl, hE⟩, hb1⟩); (have HBW := Lib.hid ((show Below w.heap.size w _ by go_grown).trans (hb1.mono (by simp)))); (have HE := Lib.hid (hE.mono (B' := w.heap.size) (by simp))); (clear hE hb1))
      | (go_at_call 41; (refine (faultWrap_any _ l 1 _ _ A _ HE.out (by decide) HBW.out.size).mono ?_); (rintro e w2 ⟨⟨v, rfl, hv⟩, hb2⟩); (obtain ⟨t2, x2, rfl⟩ := hv.iface (by decide)); (have HB2 := Lib.hid (below_step HBW.out hb2)); (have HV := Lib.hid hv); (clear hv hb2)))
    go_ret2
    exact ⟨⟨_, _, _, rfl, by rw [HC.out]; exact HV.out⟩, HB2.out⟩
  | true =>
    have hat : ¬ at_ = 0 ∧ ¬ at_ = 1 := by
      unfold supSealC at h
      rw [if_pos hr] at h
      by_cases h1 : at_ = 0 ∨ at_ = 1
      · rw [if_pos h1] at h; exact absurd rfl h
      · omega
    obtain ⟨h0, h1⟩ := hat
    have HC : Hid (supSealC s at_ = 2) := Lib.hid (by unfold supSealC; rw [if_pos hr, if_neg (by omega)])
    have HR := Lib.hid hr
    have e0 : (at_ != 0) = true := by simpa using h0
    have e1 : (at_ != 1) = true := by simpa using h1
    clear hr h h0 h1
    go_enter Tryd.func28, Tryd.ntmps28
    go_wp2_with (first
      | (go_at_call 32; (refine (superCheck_ok s HR.out _ A (HS.out.below (by go_grown))).mono ?_); (rintro e w1 ⟨rfl, hb1⟩); (have HBW := Lib.hid ((show Below w.heap.size w _ by go_grown).trans (hb1.mono (by simp)))); (have g22 := (HBW.out.cell (p := ⟨0, 0, none⟩) l2).trans HG2.out); (clear hb1))
      | (go_at_call 45; (refine (faultNew_any _ 2 _ _ A _ (sent_err 2 (by decide) (by decide)) (by decide) (Nat.le_refl _)).mono ?_); (rintro e w2 ⟨⟨v, rfl, hv⟩, hb2⟩); (obtain ⟨t2, x2, rfl⟩ := hv.iface (by decide)); (have HB2 := Lib.hid (below_step HBW.out hb2)); (have HV := Lib.hid (hv.mono HBW.out.size)); (clear hv hb2)))
    go_ret2
    exact ⟨⟨_, _, _, rfl, by rw [HC.out]; exact HV.out⟩, HB2.out⟩

theorem superSeal_page (at_ : Int) (gen : Nat) (B : List UInt8) (a : Option Addr) (c : Nat) (size : Nat) (L : List UInt8) (hL : Pg.sealL ⟨1, at_, gen, B⟩ size = L) (w : World) (A : Nat → Addr) {S : Nat → Prop} [Has S 1] [Has S 2] [Has S 5] (hs : SentsOn S w A) (hb : BytesAt w (.slice a B.length c) B) (h : Pg.checkC ⟨1, at_, gen, B⟩ size = 0) (hg : gen < 18446744073709551616) :
    Calls Tryd.prog 14 #[.agg #[.int .i64 1, .int .i64 at_, .int .u64 (gen : Int), .slice a B.length c], .int .i64 (size : Int)] w fun e w' => (∃ a2 c2, e = .returned (.tuple #[.slice a2 L.length c2, .nilIface]) ∧ Own w' w.heap.size (.slice a2 L.length c2) L) ∧ Below w.heap.size w w' := by
  subst hL
  exact (seal_ok ⟨1, at_, gen, B⟩ a c size w A hs hb h hg).mono fun e w' ⟨h, hb⟩ => ⟨h.seen, hb⟩
set_option maxRecDepth 100000 in
set_option maxHeartbeats 4000000 in
theorem superSeal_ok (s : Su.Sup) (at_ : Int) (L : List UInt8) (hL : Su.supSeal s at_ = L) (w : World) (A : Nat → Addr) {S : Nat → Prop} [Has S 1] [Has S 2] [Has S 5] (hs : SentsOn S w A) (hr : Su.right s = true) (hat : at_ = 0 ∨ at_ = 1) (hg : s.gen < 18446744073709551616) :
    Calls Tryd.prog 28 #[.agg #[.int .u64 (s.gen : Int), .int .i64 s.blocks, .int .i64 s.size, .int .i64 s.root, .int .i64 s.keys], .int .i64 at_] w fun e w' => (∃ a c, e = .returned (.tuple #[.slice a L.length c, .nilIface]) ∧ Own w' w.heap.size (.slice a L.length c) L) ∧ Below w.heap.size w w' := by
  have HS := Lib.hid hs
  have HR := Lib.hid hr
  have HL := Lib.hid hL
  have HCK := Lib.hid (Su.check_page (at_ := at_) hr (by omega))
  have hri := Su.right_iff.1 hr
  clear hs hr hL
  obtain ⟨gen, blocks, size, root, keys⟩ := s
  simp only at hri hg
  obtain ⟨bn, rfl⟩ : ∃ n : Nat, blocks = n := ⟨blocks.toNat, by omega⟩
  obtain ⟨sn, rfl⟩ : ∃ n : Nat, size = n := ⟨size.toNat, by omega⟩
  obtain ⟨rn, rfl⟩ : ∃ n : Nat, root = n := ⟨root.toNat, by omega⟩
  obtain ⟨kn, rfl⟩ : ∃ n : Nat, keys = n := ⟨keys.toNat, by omega⟩
  have b1 : bn ≤ 256 := by omega
  have b2 : sn ≤ 1024 := by omega
  have b3 : rn ≤ 256 := by omega
  have b4 : kn ≤ 2147483647 := by omega
  clear hri
  have hat2 : (at_ != 0) = false ∨ ((at_ != 0) = true ∧ (at_ != 1) = false) := by
    rcases hat with rfl | rfl
    · exact .inl rfl
    · exact .inr ⟨rfl, rfl⟩
  clear hat
  go_enter Tryd.func28, Tryd.ntmps28
  go_upto_region 4 with (go_at_call 32; (refine (superCheck_ok ⟨gen, bn, sn, rn, kn⟩ HR.out _ A (HS.out.below (by go_grown))).mono ?_); (rintro e w1 ⟨rfl, hb1⟩); (have HBX := Lib.hid ((BoxAt.new w [.int .u64 (gen : Int), .int .i64 (bn : Int), .int .i64 (sn : Int), .int .i64 (rn : Int), .int .i64 (kn : Int)] 48).below hb1)); (have HBW := Lib.hid ((show Below w.heap.size w _ by go_grown).trans (hb1.mono (by simp)))); (have hs1 := hb1.size); (clear hb1))
  simp only [World.size_alloc] at hs1
  obtain ⟨m0, m1, m2, m3, m4⟩ := HBX.out.five
  rcases hat2 with h0 | ⟨h0, h1⟩
  · go_wp2_with fail
    go_loopw [7, 8, 37] (fun v7 v8 i wr => ∃ j : Nat, j ≤ 4 ∧ i = .int .i64 j ∧ v8 = .nilIface ∧ Own wr (w.heap.size + 1) v7 (spre bn sn rn kn j) ∧ Below (w.heap.size + 1) w1 wr) (fun _ _ i _ => 4 - (intOf i).toNat)
    case atStart => exact ⟨0, by omega, rfl, rfl, Own.nil _ _, Below.refl _ _⟩
    case round =>
      obtain ⟨j, hj, rfl, rfl, ho, hbr⟩ := hrel
      have HO := Lib.hid ho
      have HBR := Lib.hid hbr
      have hsr := hbr.size
      have hX := Lib.hid (HBX.out.belowB hbr (Nat.lt_succ_self _))
      clear ho hbr m0 m1 m2 m3 m4
      by_cases hk4 : j = 4
      · subst hk4
        obtain ⟨n0, n1, n2, n3, n4⟩ := hX.out.five
        have HB1 := Lib.hid (HBW.out.trans (HBR.out.mono (Nat.le_succ _)))
        have hbb := HO.out.bytes
        have HBB := Lib.hid hbb
        have HPRE := Lib.hid (show spre bn sn rn kn 4 ++ Fld.le 8 gen = Su.bodyL ⟨gen, bn, sn, rn, kn⟩ by simp [spre, Su.bodyL])
        have HLEN := Lib.hid (Su.bodyL_length ⟨gen, bn, sn, rn, kn⟩)
        clear hbb hj
        go_upto_region 18 with (go_at_call 42; (refine (put_is _ (spre bn sn rn kn 4) gen 8 _ 8 _ rfl rfl HBB.out (by decide) hg hg (by have := spre_length bn sn rn kn 4 (by omega); omega)).mono ?_); (rintro e w2 ⟨⟨a2, c2, rfl, ho2⟩, hb2⟩); (rw [HPRE.out] at ho2 ⊢); (have HO2 := Lib.hid ho2.bytes); (have hs2 := hb2.size); (have HB2 := Lib.hid (below_step HB1.out hb2)); (obtain ⟨x0, x1, x2, x3, x4⟩ := (hX.out.below hb2).five); (clear ho2 hb2))
        generalize hBL : Su.bodyL ⟨gen, bn, sn, rn, kn⟩ = BL at *
        have HP := Lib.hid (show Su.pageOf ⟨gen, bn, sn, rn, kn⟩ at_ = ⟨1, at_, gen, BL⟩ by unfold Su.pageOf; rw [hBL])
        clear hBL
        go_wp2_with (first
          | (go_at_call 14; (refine (superSeal_page at_ gen BL a2 c2 sn L (by rw [← HL.out, Su.supSeal, HP.out]; rfl) _ A (HS.out.below HB2.out) HO2.out (by have := HCK.out; rw [HP.out] at this; exact this) hg).mono ?_); (rintro e w3 ⟨⟨a3, c3, rfl, ho3⟩, hb3⟩); (have HO3 := Lib.hid (ho3.mono HB2.out.size)); (have HB3 := Lib.hid (below_step HB2.out hb3)); (clear ho3 hb3))
          | (go_at_call 41; refine (faultWrap_nil _ _).mono ?_; rintro e w5 ⟨rfl, rfl⟩))
        go_ret2
        exact ⟨⟨_, _, rfl, HO3.out⟩, HB3.out⟩
      · rcases (show j = 0 ∨ j = 1 ∨ j = 2 ∨ j = 3 by omega) with rfl | rfl | rfl | rfl
        · have ix := fun wq => (Tryd.four (.int .i64 (bn : Int)) (.int .i64 (sn : Int)) (.int .i64 (rn : Int)) (.int .i64 (kn : Int)) wq).1
          have hbb := HO.out.bytes
          have hn1 : bn < 256 ^ 4 := show bn < 4294967296 by omega
          have HBB := Lib.hid hbb
          clear hbb
          go_wp2_with (go_at_call 42; (refine (put_is _ (spre bn sn rn kn 0) bn 4 _ 4 _ (by first | rfl | exact (IntKind.wrap_u64 _).trans (by omega)) rfl HBB.out (by decide) hn1 (by omega) (by have := spre_length bn sn rn kn 0 (by omega); omega)).mono ?_); (rintro e w2 ⟨⟨a2, c2, rfl, ho2⟩, hb2⟩))
          have HO2 := Lib.hid (ho2.mono (b2 := w.heap.size + 1) (by have := HBR.out.size; omega))
          have HB2 := Lib.hid (HBR.out.trans (hb2.mono (by have := HBR.out.size; omega)))
          clear ho2 hb2
          go_roundw
          case rel => exact ⟨1, by omega, rfl, rfl, HO2.out, HB2.out⟩
          case measure => simp [intOf]
        · have ix := fun wq => (Tryd.four (.int .i64 (bn : Int)) (.int .i64 (sn : Int)) (.int .i64 (rn : Int)) (.int .i64 (kn : Int)) wq).2.1
          have hbb := HO.out.bytes
          have hn1 : sn < 256 ^ 4 := show sn < 4294967296 by omega
          have HBB := Lib.hid hbb
          clear hbb
          go_wp2_with (go_at_call 42; (refine (put_is _ (spre bn sn rn kn 1) sn 4 _ 4 _ (by first | rfl | exact (IntKind.wrap_u64 _).trans (by omega)) rfl HBB.out (by decide) hn1 (by omega) (by have := spre_length bn sn rn kn 1 (by omega); omega)).mono ?_); (rintro e w2 ⟨⟨a2, c2, rfl, ho2⟩, hb2⟩))
          have HO2 := Lib.hid (ho2.mono (b2 := w.heap.size + 1) (by have := HBR.out.size; omega))
          have HB2 := Lib.hid (HBR.out.trans (hb2.mono (by have := HBR.out.size; omega)))
          clear ho2 hb2
          go_roundw
          case rel => exact ⟨2, by omega, rfl, rfl, HO2.out, HB2.out⟩
          case measure => simp [intOf]
        · have ix := fun wq => (Tryd.four (.int .i64 (bn : Int)) (.int .i64 (sn : Int)) (.int .i64 (rn : Int)) (.int .i64 (kn : Int)) wq).2.2.1
          have hbb := HO.out.bytes
          have hn1 : rn < 256 ^ 4 := show rn < 4294967296 by omega
          have HBB := Lib.hid hbb
          clear hbb
          go_wp2_with (go_at_call 42; (refine (put_is _ (spre bn sn rn kn 2) rn 4 _ 4 _ (by first | rfl | exact (IntKind.wrap_u64 _).trans (by omega)) rfl HBB.out (by decide) hn1 (by omega) (by have := spre_length bn sn rn kn 2 (by omega); omega)).mono ?_); (rintro e w2 ⟨⟨a2, c2, rfl, ho2⟩, hb2⟩))
          have HO2 := Lib.hid (ho2.mono (b2 := w.heap.size + 1) (by have := HBR.out.size; omega))
          have HB2 := Lib.hid (HBR.out.trans (hb2.mono (by have := HBR.out.size; omega)))
          clear ho2 hb2
          go_roundw
          case rel => exact ⟨3, by omega, rfl, rfl, HO2.out, HB2.out⟩
          case measure => simp [intOf]
        · have ix := fun wq => (Tryd.four (.int .i64 (bn : Int)) (.int .i64 (sn : Int)) (.int .i64 (rn : Int)) (.int .i64 (kn : Int)) wq).2.2.2
          have hbb := HO.out.bytes
          have hn1 : kn < 256 ^ 4 := show kn < 4294967296 by omega
          have HBB := Lib.hid hbb
          clear hbb
          go_wp2_with (go_at_call 42; (refine (put_is _ (spre bn sn rn kn 3) kn 4 _ 4 _ (by first | rfl | exact (IntKind.wrap_u64 _).trans (by omega)) rfl HBB.out (by decide) hn1 (by omega) (by have := spre_length bn sn rn kn 3 (by omega); omega)).mono ?_); (rintro e w2 ⟨⟨a2, c2, rfl, ho2⟩, hb2⟩))
          have HO2 := Lib.hid (ho2.mono (b2 := w.heap.size + 1) (by have := HBR.out.size; omega))
          have HB2 := Lib.hid (HBR.out.trans (hb2.mono (by have := HBR.out.size; omega)))
          clear ho2 hb2
          go_roundw
          case rel => exact ⟨4, by omega, rfl, rfl, HO2.out, HB2.out⟩
          case measure => simp [intOf]
  · go_wp2_with fail
    go_loopw [7, 8, 37] (fun v7 v8 i wr => ∃ j : Nat, j ≤ 4 ∧ i = .int .i64 j ∧ v8 = .nilIface ∧ Own wr (w.heap.size + 1) v7 (spre bn sn rn kn j) ∧ Below (w.heap.size + 1) w1 wr) (fun _ _ i _ => 4 - (intOf i).toNat)
    case atStart => exact ⟨0, by omega, rfl, rfl, Own.nil _ _, Below.refl _ _⟩
    case round =>
      obtain ⟨j, hj, rfl, rfl, ho, hbr⟩ := hrel
      have HO := Lib.hid ho
      have HBR := Lib.hid hbr
      have hsr := hbr.size
      have hX := Lib.hid (HBX.out.belowB hbr (Nat.lt_succ_self _))
      clear ho hbr m0 m1 m2 m3 m4
      by_cases hk4 : j = 4
      · subst hk4
        obtain ⟨n0, n1, n2, n3, n4⟩ := hX.out.five
        have HB1 := Lib.hid (HBW.out.trans (HBR.out.mono (Nat.le_succ _)))
        have hbb := HO.out.bytes
        have HBB := Lib.hid hbb
        have HPRE := Lib.hid (show spre bn sn rn kn 4 ++ Fld.le 8 gen = Su.bodyL ⟨gen, bn, sn, rn, kn⟩ by simp [spre, Su.bodyL])
        have HLEN := Lib.hid (Su.bodyL_length ⟨gen, bn, sn, rn, kn⟩)
        clear hbb hj
        go_upto_region 18 with (go_at_call 42; (refine (put_is _ (spre bn sn rn kn 4) gen 8 _ 8 _ rfl rfl HBB.out (by decide) hg hg (by have := spre_length bn sn rn kn 4 (by omega); omega)).mono ?_); (rintro e w2 ⟨⟨a2, c2, rfl, ho2⟩, hb2⟩); (rw [HPRE.out] at ho2 ⊢); (have HO2 := Lib.hid ho2.bytes); (have hs2 := hb2.size); (have HB2 := Lib.hid (below_step HB1.out hb2)); (obtain ⟨x0, x1, x2, x3, x4⟩ := (hX.out.below hb2).five); (clear ho2 hb2))
        generalize hBL : Su.bodyL ⟨gen, bn, sn, rn, kn⟩ = BL at *
        have HP := Lib.hid (show Su.pageOf ⟨gen, bn, sn, rn, kn⟩ at_ = ⟨1, at_, gen, BL⟩ by unfold Su.pageOf; rw [hBL])
        clear hBL
        go_wp2_with (first
          | (go_at_call 14; (refine (superSeal_page at_ gen BL a2 c2 sn L (by rw [← HL.out, Su.supSeal, HP.out]; rfl) _ A (HS.out.below HB2.out) HO2.out (by have := HCK.out; rw [HP.out] at this; exact this) hg).mono ?_); (rintro e w3 ⟨⟨a3, c3, rfl, ho3⟩, hb3⟩); (have HO3 := Lib.hid (ho3.mono HB2.out.size)); (have HB3 := Lib.hid (below_step HB2.out hb3)); (clear ho3 hb3))
          | (go_at_call 41; refine (faultWrap_nil _ _).mono ?_; rintro e w5 ⟨rfl, rfl⟩))
        go_ret2
        exact ⟨⟨_, _, rfl, HO3.out⟩, HB3.out⟩
      · rcases (show j = 0 ∨ j = 1 ∨ j = 2 ∨ j = 3 by omega) with rfl | rfl | rfl | rfl
        · have ix := fun wq => (Tryd.four (.int .i64 (bn : Int)) (.int .i64 (sn : Int)) (.int .i64 (rn : Int)) (.int .i64 (kn : Int)) wq).1
          have hbb := HO.out.bytes
          have hn1 : bn < 256 ^ 4 := show bn < 4294967296 by omega
          have HBB := Lib.hid hbb
          clear hbb
          go_wp2_with (go_at_call 42; (refine (put_is _ (spre bn sn rn kn 0) bn 4 _ 4 _ (by first | rfl | exact (IntKind.wrap_u64 _).trans (by omega)) rfl HBB.out (by decide) hn1 (by omega) (by have := spre_length bn sn rn kn 0 (by omega); omega)).mono ?_); (rintro e w2 ⟨⟨a2, c2, rfl, ho2⟩, hb2⟩))
          have HO2 := Lib.hid (ho2.mono (b2 := w.heap.size + 1) (by have := HBR.out.size; omega))
          have HB2 := Lib.hid (HBR.out.trans (hb2.mono (by have := HBR.out.size; omega)))
          clear ho2 hb2
          go_roundw
          case rel => exact ⟨1, by omega, rfl, rfl, HO2.out, HB2.out⟩
          case measure => simp [intOf]
        · have ix := fun wq => (Tryd.four (.int .i64 (bn : Int)) (.int .i64 (sn : Int)) (.int .i64 (rn : Int)) (.int .i64 (kn : Int)) wq).2.1
          have hbb := HO.out.bytes
          have hn1 : sn < 256 ^ 4 := show sn < 4294967296 by omega
          have HBB := Lib.hid hbb
          clear hbb
          go_wp2_with (go_at_call 42; (refine (put_is _ (spre bn sn rn kn 1) sn 4 _ 4 _ (by first | rfl | exact (IntKind.wrap_u64 _).trans (by omega)) rfl HBB.out (by decide) hn1 (by omega) (by have := spre_length bn sn rn kn 1 (by omega); omega)).mono ?_); (rintro e w2 ⟨⟨a2, c2, rfl, ho2⟩, hb2⟩))
          have HO2 := Lib.hid (ho2.mono (b2 := w.heap.size + 1) (by have := HBR.out.size; omega))
          have HB2 := Lib.hid (HBR.out.trans (hb2.mono (by have := HBR.out.size; omega)))
          clear ho2 hb2
          go_roundw
          case rel => exact ⟨2, by omega, rfl, rfl, HO2.out, HB2.out⟩
          case measure => simp [intOf]
        · have ix := fun wq => (Tryd.four (.int .i64 (bn : Int)) (.int .i64 (sn : Int)) (.int .i64 (rn : Int)) (.int .i64 (kn : Int)) wq).2.2.1
          have hbb := HO.out.bytes
          have hn1 : rn < 256 ^ 4 := show rn < 4294967296 by omega
          have HBB := Lib.hid hbb
          clear hbb
          go_wp2_with (go_at_call 42; (refine (put_is _ (spre bn sn rn kn 2) rn 4 _ 4 _ (by first | rfl | exact (IntKind.wrap_u64 _).trans (by omega)) rfl HBB.out (by decide) hn1 (by omega) (by have := spre_length bn sn rn kn 2 (by omega); omega)).mono ?_); (rintro e w2 ⟨⟨a2, c2, rfl, ho2⟩, hb2⟩))
          have HO2 := Lib.hid (ho2.mono (b2 := w.heap.size + 1) (by have := HBR.out.size; omega))
          have HB2 := Lib.hid (HBR.out.trans (hb2.mono (by have := HBR.out.size; omega)))
          clear ho2 hb2
          go_roundw
          case rel => exact ⟨3, by omega, rfl, rfl, HO2.out, HB2.out⟩
          case measure => simp [intOf]
        · have ix := fun wq => (Tryd.four (.int .i64 (bn : Int)) (.int .i64 (sn : Int)) (.int .i64 (rn : Int)) (.int .i64 (kn : Int)) wq).2.2.2
          have hbb := HO.out.bytes
          have hn1 : kn < 256 ^ 4 := show kn < 4294967296 by omega
          have HBB := Lib.hid hbb
          clear hbb
          go_wp2_with (go_at_call 42; (refine (put_is _ (spre bn sn rn kn 3) kn 4 _ 4 _ (by first | rfl | exact (IntKind.wrap_u64 _).trans (by omega)) rfl HBB.out (by decide) hn1 (by omega) (by have := spre_length bn sn rn kn 3 (by omega); omega)).mono ?_); (rintro e w2 ⟨⟨a2, c2, rfl, ho2⟩, hb2⟩))
          have HO2 := Lib.hid (ho2.mono (b2 := w.heap.size + 1) (by have := HBR.out.size; omega))
          have HB2 := Lib.hid (HBR.out.trans (hb2.mono (by have := HBR.out.size; omega)))
          clear ho2 hb2
          go_roundw
          case rel => exact ⟨4, by omega, rfl, rfl, HO2.out, HB2.out⟩
          case measure => simp [intOf]
end Go.Proofs.YtaofhdoieffhhaaDoor
