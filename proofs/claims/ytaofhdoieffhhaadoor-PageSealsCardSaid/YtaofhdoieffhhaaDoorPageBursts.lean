/- pages: the walk of PageBursts -/
import Derived.Test.YtaofhdoieffhhaaDoorPageBack
namespace Go.Proofs.YtaofhdoieffhhaaDoor
open Go.RowKit
set_option linter.unusedVariables false
set_option linter.unusedSimpArgs false

theorem u16_nat {n : Int} (h : (Lit.int .u16 n).wf = true) : ∃ m : Nat, n = (m : Int) ∧ m < 65536 := by
  have hx : 0 ≤ n ∧ n ≤ 65535 := by simpa [Lit.wf, IntKind.min, IntKind.max, IntKind.signed, IntKind.bits] using h
  exact ⟨n.toNat, by omega, by omega⟩
/-- a block that was changed by a burst opens not -/
theorem burst_open {L : List UInt8} (h : Pg.opens L) (bit : Nat) (mask : BitVec 32) (hne : L ≠ changed L bit mask 32) : ¬ Pg.opens (changed L bit mask 32) := by
  intro h2
  exact hne (changed_sum L bit mask ((Pg.sum_opens h).trans (Pg.sum_opens h2).symm))
theorem burst_openL {L : List UInt8} (h : Pg.opens L) (bit : Nat) (mask : BitVec 32) (hne : L ≠ changed L bit mask 32) : ∃ X, Pg.openL (changed L bit mask 32) = (Pg.zero, 5, X) := by
  have h1 := burst_open h bit mask hne
  have h2 := (Pg.check_ok h.1).1
  have hl := changed_length L bit mask 32
  refine ⟨Pg.named (changed L bit mask 32), ?_⟩
  unfold Pg.openL
  rw [if_neg (by unfold Pg.sized; simp; omega), if_neg h1]

theorem refSame_zero (s1 : Value) (w : World) (h1 : BytesAt w s1 []) :
    Calls Tryd.prog 16 #[.agg #[.int .i64 0, .int .i64 0, .int .u64 0, s1], .agg #[.int .i64 0, .int .i64 0, .int .u64 0, .slice none 0 0]] w fun e w' => e = .returned (.bool true) ∧ Below w.heap.size w w' := by
  have := refSame_any Pg.zero Pg.zero s1 (.slice none 0 0) w h1 (BytesAt.nil w)
  rwa [pageEq_self] at this

set_option maxRecDepth 100000 in
set_option maxHeartbeats 2000000 in
theorem pageBursts_walk (p : Pg.Page) (a0 : Option Addr) (c0 : Nat) (bit : Nat) (mask : BitVec 32) (w : World) (A : Nat → Addr) (hs : Sents w A) (hp : BytesAt w (.slice a0 p.body.length c0) p.body) (hgen : p.gen < 18446744073709551616) (hbit : bit < 65536) :
    Calls Tryd.prog 6 #[.agg #[.int .i64 p.kind, .int .i64 p.id, .int .u64 (p.gen : Int), .slice a0 p.body.length c0], .int .u16 (bit : Int), .int .u32 (mask.toNat : Int)] w fun e w' => e = .returned (.bool true) ∧ Below w.heap.size w w' := by
  have hpl : p.body.length ≤ 9223372036854775807 := by
    obtain ⟨a', c', e, q1, q2, _⟩ := hp
    unfold maxLen at q2
    omega
  have HS := Lib.hid hs
  have HP := Lib.hid hp
  have hC := pageEq_self p
  clear hs hp
  by_cases hck : Pg.checkC p (256 : Nat) = 0
  · have hbl := (Pg.check_ok hck).2.2.2
    have hLl := Pg.seal_length (p := p) (size := 256) (by omega)
    obtain ⟨ho1, ho2⟩ := Pg.opens_seal hck hgen
    have ho3 := Pg.open_page ho1
    rw [ho2] at ho3
    generalize hL : Pg.sealL p 256 = L at *
    have HL := Lib.hid hL
    have HLL := Lib.hid hLl
    have HCK := Lib.hid hck
    have hcl := changed_length L bit mask 32
    rw [hLl] at hcl
    have hres : (L = changed L bit mask 32 ∧ Pg.openL (changed L bit mask 32) = (p, 0, -1)) ∨ ((L == changed L bit mask 32) = false ∧ ∃ X, Pg.openL (changed L bit mask 32) = (Pg.zero, 5, X)) := by
      by_cases h : L = changed L bit mask 32
      · exact .inl ⟨h, by rw [← h]; exact ho3⟩
      · exact .inr ⟨by simpa using h, burst_openL ho1 bit mask h⟩
    generalize hN : changed L bit mask 32 = N at *
    have HN := Lib.hid hN
    have HNL := Lib.hid hcl
    clear hN hcl hL hck ho1 ho2 ho3 hLl
    go_enter Tryd.func6, Tryd.ntmps6
    have hbi : (bit : Int) < 65536 := by omega
    go_upto_region 5 with (first
      | (go_at_call 14; (refine (seal_is p a0 c0 256 L HL.out _ A (HS.out.below (by go_grown)) (HP.out.alloc _) HCK.out hgen).mono ?_); (rintro e w1 ⟨⟨a1, c1, rfl, ho1⟩, hb1⟩); (have HX := Lib.hid ((Box4.new w _ _ _ _ _).below hb1)); (have HO1 := Lib.hid ho1.bytes); (have HB1 := Lib.hid ((show Below w.heap.size w _ by go_grown).trans (hb1.mono (by simp)))); (clear ho1 hb1))
      | (go_at_call 24; (refine (changed_any _ L bit mask _ HO1.out (by have := HLL.out; omega) (by omega)).mono ?_); (rintro e w2 ⟨⟨v2, rfl, ho2⟩, hb2⟩); (rw [HN.out] at ho2); (obtain ⟨a2, c2, rfl, -, -⟩ := ho2.slice); (have HO2 := Lib.hid ho2.bytes); (have HB2 := Lib.hid (below_step HB1.out hb2)); (have HX2 := Lib.hid (HX.out.below hb2)); (have HO12 := Lib.hid (HO1.out.below hb2)); (clear ho2 hb2)))
    rcases hres with ⟨rfl, hop⟩ | ⟨hne, X, hop⟩
    · have HOP := Lib.hid hop
      have hll : (L == L) = true := by simp
      clear hop
      go_upto_region 6 with (go_at_call 15; (refine (open_is a2 c2 L p 0 (-1) HOP.out _ A (HS.out.below HB2.out) HO2.out).mono ?_); (rintro e w3 ⟨⟨a3, c3, ev, lp, rfl, ho3, hE, hpp, hll⟩, hb3⟩); (obtain ⟨rfl, rfl⟩ := hE.isNil); (have HO3 := Lib.hid ho3); (have HB3 := Lib.hid (below_step HB2.out hb3)); (have HX3 := Lib.hid (HX2.out.below hb3)); (have HO13 := Lib.hid (HO12.out.below hb3)); (have HO23 := Lib.hid (HO2.out.below hb3)); (clear ho3 hb3 hE hpp hll))
      refine wp_name fun W hW => ?_
      have hX1 : Box4 W w3.heap.size (.int .i64 p.kind) (.int .i64 p.id) (.int .u64 (p.gen : Int)) (.slice a3 p.body.length c3) := by rw [hW]; exact Box4.new _ _ _ _ _ _
      have hbW : Below w3.heap.size w3 W := by rw [hW]; go_grown
      have HX0 := Lib.hid (HX3.out.below hbW)
      have HXX := Lib.hid hX1
      replace HO3 := Lib.hid (HO3.out.bytes.below hbW)
      replace HO13 := Lib.hid (HO13.out.below hbW)
      replace HO23 := Lib.hid (HO23.out.below hbW)
      have HBW := Lib.hid (below_step HB3.out hbW)
      clear hW hX1 hbW
      go_wp2_with (first
        | (go_at_call 17; (refine (same_any _ _ L L _ HO13.out HO23.out).mono ?_); (rintro e w7 ⟨rfl, hb7⟩); (have HB7 := Lib.hid (below_step HBW.out hb7)); (have HO37 := Lib.hid (HO3.out.below hb7)); (obtain ⟨m0, m1, m2, m3, -, -, -, -⟩ := HX0.out.below hb7); (obtain ⟨n0, n1, n2, n3, -, -, -, -⟩ := HXX.out.below hb7); (clear hb7))
        | (go_at_call 16; (refine (refSame_any p p _ _ _ (HP.out.below HB7.out) HO37.out).mono ?_); (rintro e w4 ⟨rfl, hb4⟩); (have HB4 := Lib.hid (below_step HB7.out hb4)); (clear hb4))
        | (go_at_call 18; (refine (pageAwake_any _ A (HS.out.below HB4.out)).mono ?_); (rintro e w8 ⟨rfl, hb8⟩); (have HB8 := Lib.hid (below_step HB4.out hb8)); (clear hb8)))
      go_ret
      exact ⟨rfl, HB8.out⟩
    · have HOP := Lib.hid hop
      clear hop
      go_upto_region 6 with (go_at_call 15; (refine (open_is a2 c2 N Pg.zero 5 X HOP.out _ A (HS.out.below HB2.out) HO2.out).mono ?_); (rintro e w3 ⟨⟨a3, c3, ev, lp, rfl, ho3, hE, hpp, hll⟩, hb3⟩); (obtain ⟨t3, x3, rfl⟩ := hE.iface (by decide)); (have HE3 := Lib.hid hE); (have HO3 := Lib.hid ho3); (have HB3 := Lib.hid (below_step HB2.out hb3)); (have HO13 := Lib.hid (HO12.out.below hb3)); (have HO23 := Lib.hid (HO2.out.below hb3)); (clear ho3 hb3 hE hpp hll))
      refine wp_name fun W hW => ?_
      have hX1 : Box4 W w3.heap.size (.int .i64 Pg.zero.kind) (.int .i64 Pg.zero.id) (.int .u64 (Pg.zero.gen : Int)) (.slice a3 Pg.zero.body.length c3) := by rw [hW]; exact Box4.new _ _ _ _ _ _
      have hX2 : Box4 W w3.heap.size (.int .i64 0) (.int .i64 0) (.int .u64 0) (.slice a3 0 c3) := hX1
      have hbW : Below w3.heap.size w3 W := by rw [hW]; go_grown
      have HXX := Lib.hid hX2
      replace HO3 := Lib.hid (show BytesAt W (.slice a3 0 c3) [] from HO3.out.bytes.below hbW)
      replace HO13 := Lib.hid (HO13.out.below hbW)
      replace HO23 := Lib.hid (HO23.out.below hbW)
      replace HE3 := Lib.hid (HE3.out.below' hbW)
      have HBW := Lib.hid (below_step HB3.out hbW)
      clear hW hX1 hX2 hbW
      go_wp2_with (first
        | (go_at_call 17; (refine (same_any _ _ L N _ HO13.out HO23.out).mono ?_); (rintro e w7 ⟨rfl, hb7⟩); (have HB7 := Lib.hid (below_step HBW.out hb7)); (have HE7 := Lib.hid (HE3.out.below' hb7)); (have HO37 := Lib.hid (HO3.out.below hb7)); (obtain ⟨n0, n1, n2, n3, -, -, -, -⟩ := HXX.out.below hb7); (clear hb7))
        | (go_at_call 21; (refine (tells05_any (HS.out.below HB7.out) lp _ _ HE7.out _ rfl).mono ?_); (rintro e w9 ⟨rfl, rfl⟩))
        | (go_at_call 16; (refine (refSame_zero _ _ HO37.out).mono ?_); (rintro e w4 ⟨rfl, hb4⟩); (have HB4 := Lib.hid (below_step HB7.out hb4)); (clear hb4))
        | (go_at_call 18; (refine (pageAwake_any _ A (HS.out.below HB4.out)).mono ?_); (rintro e w8 ⟨rfl, hb8⟩); (have HB8 := Lib.hid (below_step HB4.out hb8)); (clear hb8)))
      go_ret
      exact ⟨rfl, HB8.out⟩
  · have HCK := Lib.hid hck
    clear hck
    go_enter Tryd.func6, Tryd.ntmps6
    go_wp2_with (first
      | (go_at_call 14; (refine (seal_bad p a0 c0 256 _ A (HS.out.below (by go_grown)) (by decide) hpl HCK.out).mono ?_); (rintro e w1 ⟨⟨t1, x1, l1, rfl, hE1⟩, hb1⟩); (obtain ⟨m0, m1, m2, m3, -, -, -, -⟩ := (Box4.new w _ _ _ _ _).below hb1); (have HE := Lib.hid hE1); (have HB1 := Lib.hid ((show Below w.heap.size w _ by go_grown).trans (hb1.mono (by simp)))); (clear hE1 hb1))
      | (go_at_call 20; (refine (refCheck_any p a0 c0 256 _ (by decide) hpl).mono ?_); (rintro e w2 ⟨rfl, hb2⟩); (have HE2 := Lib.hid (HE.out.below' hb2)); (have HB2 := Lib.hid (below_step HB1.out hb2)); (clear hb2))
      | (go_at_call 21; (refine (tells05_any (HS.out.below HB2.out) l1 _ _ HE2.out _ rfl).mono ?_); (rintro e w3 ⟨rfl, rfl⟩))
      | (go_at_call 18; (refine (pageAwake_any _ A (HS.out.below HB2.out)).mono ?_); (rintro e w8 ⟨rfl, hb8⟩); (have HB8 := Lib.hid (below_step HB2.out hb8)); (clear hb8)))
    go_ret
    exact ⟨rfl, HB8.out⟩
end Go.Proofs.YtaofhdoieffhhaaDoor
