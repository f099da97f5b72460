/- pages: the walks of PageBack -/
import Derived.Test.YtaofhdoieffhhaaDoorPageOpens
namespace Go.Proofs.YtaofhdoieffhhaaDoor
open Go.RowKit
set_option linter.unusedVariables false
set_option linter.unusedSimpArgs false

/-- Seal of a page, one that may be: a page's block, and how long it is -/
theorem seal_is (p : Pg.Page) (a : Option Addr) (c : Nat) (size : Nat) (L : List UInt8) (hL : Pg.sealL p size = L) (w : World) (A : Nat → Addr) {S : Nat → Prop} [Has S 1] [Has S 2] [Has S 5] (hs : SentsOn S w A) (hb : BytesAt w (.slice a p.body.length c) p.body) (h : Pg.checkC p size = 0) (hg : p.gen < 18446744073709551616) :
    Calls Tryd.prog 14 #[.agg #[.int .i64 p.kind, .int .i64 p.id, .int .u64 (p.gen : Int), .slice a p.body.length c], .int .i64 (size : Int)] w fun e w' => (∃ a2 c2, e = .returned (.tuple #[.slice a2 L.length c2, .nilIface]) ∧ Own w' w.heap.size (.slice a2 L.length c2) L) ∧ Below w.heap.size w w' := by
  subst hL
  exact (seal_ok p a c size w A hs hb h hg).mono fun e w' ⟨h, hb⟩ => ⟨h.seen, hb⟩

/-- what stands behind PageBack's first part -/
theorem pageBack_open (a : Option Addr) (c : Nat) (l : List UInt8) (hl : l.length ≤ 140737488351232) :
    (Pg.opens l ∧ Pg.checkC (Pg.readL l) l.length = 0 ∧ Pg.sealL (Pg.readL l) l.length = l ∧ Pg.openL l = (Pg.readL l, 0, -1)) ∨ (∃ k X, k ≠ 0 ∧ Pg.openL l = (Pg.zero, k, X)) := by
  by_cases h : Pg.opens l
  · exact .inl ⟨h, h.1, h.2, Pg.open_page h⟩
  · refine .inr ⟨(Pg.openL l).2.1, (Pg.openL l).2.2, fun h0 => h ((Pg.open_code l).1 h0), ?_⟩
    rw [← Pg.open_not h]

set_option maxRecDepth 100000 in
set_option maxHeartbeats 2000000 in
theorem pageBack_walk (p : Pg.Page) (a0 : Option Addr) (c0 : Nat) (size : Int) (v : Value) (l : List UInt8) (w : World) (A : Nat → Addr) {S : Nat → Prop} [Has S 1] [Has S 2] [Has S 5] (hs : SentsOn S w A) (hb : BytesAt w v l) (hp : BytesAt w (.slice a0 p.body.length c0) p.body) (hgen : p.gen < 18446744073709551616)
    (hsz : -9223372036854775808 ≤ size ∧ size ≤ 9223372036854775807) (hlen : l.length ≤ 140737488351232) :
    Calls Tryd.prog 3 #[.agg #[.int .i64 p.kind, .int .i64 p.id, .int .u64 (p.gen : Int), .slice a0 p.body.length c0], .int .i64 size, v] w fun e w' => e = .returned (.bool true) ∧ Below w.heap.size w w' := by
  have hpl : p.body.length ≤ 9223372036854775807 := by
    obtain ⟨a', c', e, q1, q2, _⟩ := hp
    unfold maxLen at q2
    omega
  have HS := Lib.hid hs
  have HB := Lib.hid hb
  have HP := Lib.hid hp
  have hC := pageEq_self p
  obtain ⟨a, c, rfl, -, -, -⟩ := hb
  have hD := pageBack_open a c l hlen
  clear hs hp
  by_cases hck : Pg.checkC p size = 0
  · have hsize := (Pg.check_ok hck).1
    have hbl := (Pg.check_ok hck).2.2.2
    obtain ⟨n, rfl⟩ : ∃ n : Nat, size = (n : Int) := ⟨size.toNat, by omega⟩
    have hLl := Pg.seal_length (p := p) (size := n) (by omega)
    obtain ⟨ho1, ho2⟩ := Pg.opens_seal hck hgen
    have ho3 := Pg.open_page ho1
    rw [ho2] at ho3
    generalize hL : Pg.sealL p n = L at *
    have HL := Lib.hid hL
    have HCK := Lib.hid hck
    have HOP := Lib.hid ho3
    clear hL hck ho1 ho2 ho3
    subst hLl
    go_enter Tryd.func3, Tryd.ntmps3
    go_upto_region 4 with (first
      | (go_at_call 14; (refine (seal_is p a0 c0 L.length L HL.out _ A (HS.out.below (by go_grown)) (HP.out.alloc _) HCK.out hgen).mono ?_); (rintro e w1 ⟨⟨a1, c1, rfl, ho1⟩, hb1⟩); (have HX := Lib.hid ((Box4.new w _ _ _ _ _).below hb1)); (have HO1 := Lib.hid ho1); (have HB1 := Lib.hid ((show Below w.heap.size w _ by go_grown).trans (hb1.mono (by simp)))); (have hs1 := HB1.out.size); (clear ho1 hb1))
      | (go_at_call 15; (refine (open_is a1 c1 L p 0 (-1) HOP.out _ A (HS.out.below HB1.out) HO1.out.bytes).mono ?_); (rintro e w2 ⟨⟨a2, c2, ev, lp, rfl, ho2, hE, hpp, hll⟩, hb2⟩); (obtain ⟨rfl, rfl⟩ := hE.isNil); (have HO2 := Lib.hid ho2); (have HB2 := Lib.hid hb2); (have hs2 := hb2.size); (clear ho2 hb2 hE hpp hll)))
    refine wp_name fun W hW => ?_
    have hX1 : Box4 W w2.heap.size (.int .i64 p.kind) (.int .i64 p.id) (.int .u64 (p.gen : Int)) (.slice a2 p.body.length c2) := by rw [hW]; exact Box4.new _ _ _ _ _ _
    have hbW : Below w2.heap.size w2 W := by rw [hW]; go_grown
    have hX0 := (HX.out.below HB2.out).below hbW
    replace HO2 := Lib.hid (HO2.out.bytes.below hbW)
    have HBW := Lib.hid (HB1.out.trans ((HB2.out.trans (hbW.mono hs2)).mono hs1))
    obtain ⟨m0, m1, m2, m3, -, -, -, -⟩ := hX0
    obtain ⟨n0, n1, n2, n3, -, -, -, -⟩ := hX1
    clear hW hbW
    go_upto_region 6 with (go_at_call 16; (refine (refSame_any p p _ _ _ (HP.out.below HBW.out) HO2.out).mono ?_); (rintro e w4 ⟨rfl, hb4⟩); (have HBK := Lib.hid (below_step HBW.out hb4)); (clear hb4))
    rcases hD with ⟨q1, q2, q3, q4⟩ | ⟨k, X, hk, q4⟩
    · obtain ⟨q, hq⟩ : ∃ q, Pg.readL l = q := ⟨_, rfl⟩
      rw [hq] at q2 q3 q4
      have Q2 := Lib.hid q2
      have Q3 := Lib.hid q3
      have Q4 := Lib.hid q4
      have hqg : q.gen < 18446744073709551616 := by rw [← hq]; exact Pg.read_gen l
      have hll : (l == l) = true := by simp
      clear q1 q2 q3 q4 hq
      go_upto_region 7 with (go_at_call 15; (refine (open_is a c l q 0 (-1) Q4.out _ A (HS.out.below HBK.out) (HB.out.below HBK.out)).mono ?_); (rintro e w5 ⟨⟨a5, c5, ev, lp, rfl, ho5, hE5, hpp5, hll5⟩, hb5⟩); (obtain ⟨rfl, rfl⟩ := hE5.isNil); (have HO5 := Lib.hid ho5); (have HB5 := Lib.hid (below_step HBK.out hb5)); (have hs5 := HB5.out.size); (clear ho5 hb5 hE5 hpp5 hll5))
      refine wp_name fun W5 hW5 => ?_
      have hY1 : Box4 W5 w5.heap.size (.int .i64 q.kind) (.int .i64 q.id) (.int .u64 (q.gen : Int)) (.slice a5 q.body.length c5) := by rw [hW5]; exact Box4.new _ _ _ _ _ _
      have hbW5 : Below w5.heap.size w5 W5 := by rw [hW5]; go_grown
      replace HO5 := Lib.hid (HO5.out.bytes.below hbW5)
      have HBW5 := Lib.hid (HB5.out.trans (hbW5.mono hs5))
      obtain ⟨y0, y1, y2, y3, -, -, -, -⟩ := hY1
      clear hW5 hbW5
      go_wp2_with (first
        | (go_at_call 14; (refine (seal_is q a5 c5 l.length l Q3.out _ A (HS.out.below HBW5.out) HO5.out Q2.out hqg).mono ?_); (rintro e w6 ⟨⟨a6, c6, rfl, ho6⟩, hb6⟩); (have HO6 := Lib.hid ho6.bytes); (have HB6 := Lib.hid (below_step HBW5.out hb6)); (clear ho6 hb6))
        | (go_at_call 17; (refine (same_any _ _ l l _ HO6.out (HB.out.below HB6.out)).mono ?_); (rintro e w7 ⟨rfl, hb7⟩); (have HB7 := Lib.hid (below_step HB6.out hb7)); (clear hb7))
        | (go_at_call 18; (refine (pageAwake_any _ A (HS.out.below HB7.out)).mono ?_); (rintro e w8 ⟨rfl, hb8⟩); (have HB8 := Lib.hid (below_step HB7.out hb8)); (clear hb8)))
      go_ret
      exact ⟨rfl, HB8.out⟩
    · have Q4 := Lib.hid q4
      have HKK := Lib.hid hk
      clear q4 hk
      go_upto_region 7 with (go_at_call 15; (refine (open_is a c l Pg.zero k X Q4.out _ A (HS.out.below HBK.out) (HB.out.below HBK.out)).mono ?_); (rintro e w5 ⟨⟨a5, c5, ev, lp, rfl, ho5, hE5, hpp5, hll5⟩, hb5⟩); (obtain ⟨t5, x5, rfl⟩ := hE5.iface HKK.out); (have HB5 := Lib.hid (below_step HBK.out hb5)); (have hs5 := HB5.out.size); (clear ho5 hb5 hE5 hpp5 hll5))
      refine wp_name fun W5 hW5 => ?_
      have hbW5 : Below w5.heap.size w5 W5 := by rw [hW5]; go_grown
      have HBW5 := Lib.hid (HB5.out.trans (hbW5.mono hs5))
      clear hW5 hbW5
      go_wp2_with (go_at_call 18; (refine (pageAwake_any _ A (HS.out.below HBW5.out)).mono ?_); (rintro e w8 ⟨rfl, hb8⟩); (have HB8 := Lib.hid (below_step HBW5.out hb8)); (clear hb8))
      go_ret
      exact ⟨rfl, HB8.out⟩
  · have HCK := Lib.hid hck
    clear hck
    go_enter Tryd.func3, Tryd.ntmps3
    go_upto_region 6 with (go_at_call 14; (refine (seal_bad p a0 c0 size _ A (HS.out.below (by go_grown)) hsz hpl HCK.out).mono ?_); (rintro e w1 ⟨⟨t1, x1, l1, rfl, hE1⟩, hb1⟩); (have HBK := Lib.hid ((show Below w.heap.size w _ by go_grown).trans (hb1.mono (by simp)))); (clear hE1 hb1))
    rcases hD with ⟨q1, q2, q3, q4⟩ | ⟨k, X, hk, q4⟩
    · obtain ⟨q, hq⟩ : ∃ q, Pg.readL l = q := ⟨_, rfl⟩
      rw [hq] at q2 q3 q4
      have Q2 := Lib.hid q2
      have Q3 := Lib.hid q3
      have Q4 := Lib.hid q4
      have hqg : q.gen < 18446744073709551616 := by rw [← hq]; exact Pg.read_gen l
      have hll : (l == l) = true := by simp
      clear q1 q2 q3 q4 hq
      go_upto_region 7 with (go_at_call 15; (refine (open_is a c l q 0 (-1) Q4.out _ A (HS.out.below HBK.out) (HB.out.below HBK.out)).mono ?_); (rintro e w5 ⟨⟨a5, c5, ev, lp, rfl, ho5, hE5, hpp5, hll5⟩, hb5⟩); (obtain ⟨rfl, rfl⟩ := hE5.isNil); (have HO5 := Lib.hid ho5); (have HB5 := Lib.hid (below_step HBK.out hb5)); (have hs5 := HB5.out.size); (clear ho5 hb5 hE5 hpp5 hll5))
      refine wp_name fun W5 hW5 => ?_
      have hY1 : Box4 W5 w5.heap.size (.int .i64 q.kind) (.int .i64 q.id) (.int .u64 (q.gen : Int)) (.slice a5 q.body.length c5) := by rw [hW5]; exact Box4.new _ _ _ _ _ _
      have hbW5 : Below w5.heap.size w5 W5 := by rw [hW5]; go_grown
      replace HO5 := Lib.hid (HO5.out.bytes.below hbW5)
      have HBW5 := Lib.hid (HB5.out.trans (hbW5.mono hs5))
      obtain ⟨y0, y1, y2, y3, -, -, -, -⟩ := hY1
      clear hW5 hbW5
      go_wp2_with (first
        | (go_at_call 14; (refine (seal_is q a5 c5 l.length l Q3.out _ A (HS.out.below HBW5.out) HO5.out Q2.out hqg).mono ?_); (rintro e w6 ⟨⟨a6, c6, rfl, ho6⟩, hb6⟩); (have HO6 := Lib.hid ho6.bytes); (have HB6 := Lib.hid (below_step HBW5.out hb6)); (clear ho6 hb6))
        | (go_at_call 17; (refine (same_any _ _ l l _ HO6.out (HB.out.below HB6.out)).mono ?_); (rintro e w7 ⟨rfl, hb7⟩); (have HB7 := Lib.hid (below_step HB6.out hb7)); (clear hb7))
        | (go_at_call 18; (refine (pageAwake_any _ A (HS.out.below HB7.out)).mono ?_); (rintro e w8 ⟨rfl, hb8⟩); (have HB8 := Lib.hid (below_step HB7.out hb8)); (clear hb8)))
      go_ret
      exact ⟨rfl, HB8.out⟩
    · have Q4 := Lib.hid q4
      have HKK := Lib.hid hk
      clear q4 hk
      go_upto_region 7 with (go_at_call 15; (refine (open_is a c l Pg.zero k X Q4.out _ A (HS.out.below HBK.out) (HB.out.below HBK.out)).mono ?_); (rintro e w5 ⟨⟨a5, c5, ev, lp, rfl, ho5, hE5, hpp5, hll5⟩, hb5⟩); (obtain ⟨t5, x5, rfl⟩ := hE5.iface HKK.out); (have HB5 := Lib.hid (below_step HBK.out hb5)); (have hs5 := HB5.out.size); (clear ho5 hb5 hE5 hpp5 hll5))
      refine wp_name fun W5 hW5 => ?_
      have hbW5 : Below w5.heap.size w5 W5 := by rw [hW5]; go_grown
      have HBW5 := Lib.hid (HB5.out.trans (hbW5.mono hs5))
      clear hW5 hbW5
      go_wp2_with (go_at_call 18; (refine (pageAwake_any _ A (HS.out.below HBW5.out)).mono ?_); (rintro e w8 ⟨rfl, hb8⟩); (have HB8 := Lib.hid (below_step HBW5.out hb8)); (clear hb8))
      go_ret
      exact ⟨rfl, HB8.out⟩
end Go.Proofs.YtaofhdoieffhhaaDoor
