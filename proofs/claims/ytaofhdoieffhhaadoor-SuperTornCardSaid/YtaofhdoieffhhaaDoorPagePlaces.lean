/- pages: the walks of PagePlaces, PageBack, PageBursts -/
import Derived.Test.YtaofhdoieffhhaaDoorPageSames
import Derived.Test.YtaofhdoieffhhaaDoorChanged
namespace Go.Proofs.YtaofhdoieffhhaaDoor
open Go.RowKit
set_option linter.unusedVariables false
set_option linter.unusedSimpArgs false

theorem openAt_is (a : Option Addr) (c : Nat) (l : List UInt8) (id : Int) (p : Pg.Page) (k : Nat) (X : Int) (hr : Pg.openAtL l id = (p, k, X)) (w : World) (A : Nat → Addr) {S : Nat → Prop} [Has S 1] [Has S 2] [Has S 5] (hs : SentsOn S w A) (hb : BytesAt w (.slice a l.length c) l) :
    Calls Tryd.prog 37 #[.slice a l.length c, .int .i64 id] w fun e w' => (∃ a1 c1 ev lp, e = .returned (.tuple #[.agg #[.int .i64 p.kind, .int .i64 p.id, .int .u64 (p.gen : Int), .slice a1 p.body.length c1], ev]) ∧ Own w' w.heap.size (.slice a1 p.body.length c1) p.body ∧ ErrIs w' A w.heap.size lp k ev ∧ pageOf lp = X ∧ lp.length ≤ 2) ∧ Below w.heap.size w w' := by
  have := openAt_any a c l id w A hs hb
  rw [hr] at this
  exact this
theorem refOpenAt_is (a : Option Addr) (c : Nat) (l : List UInt8) (id : Int) (p : Pg.Page) (k : Nat) (X : Int) (hr : Pg.openAtL l id = (p, k, X)) (w : World) (hb : BytesAt w (.slice a l.length c) l) :
    Calls Tryd.prog 38 #[.slice a l.length c, .int .i64 id] w fun e w' => (∃ a1 c1, e = .returned (.tuple #[.agg #[.int .i64 p.kind, .int .i64 p.id, .int .u64 (p.gen : Int), .slice a1 p.body.length c1], .int .i64 (k : Int), .int .i64 X]) ∧ Own w' w.heap.size (.slice a1 p.body.length c1) p.body) ∧ Below w.heap.size w w' := by
  have := refOpenAt_any a c l id w hb
  rw [hr] at this
  exact this
theorem open_is (a : Option Addr) (c : Nat) (l : List UInt8) (p : Pg.Page) (k : Nat) (X : Int) (hr : Pg.openL l = (p, k, X)) (w : World) (A : Nat → Addr) {S : Nat → Prop} [Has S 1] [Has S 2] [Has S 5] (hs : SentsOn S w A) (hb : BytesAt w (.slice a l.length c) l) :
    Calls Tryd.prog 15 #[.slice a l.length c] w fun e w' => (∃ a1 c1 ev lp, e = .returned (.tuple #[.agg #[.int .i64 p.kind, .int .i64 p.id, .int .u64 (p.gen : Int), .slice a1 p.body.length c1], ev]) ∧ Own w' w.heap.size (.slice a1 p.body.length c1) p.body ∧ ErrIs w' A w.heap.size lp k ev ∧ pageOf lp = X ∧ lp.length ≤ 1) ∧ Below w.heap.size w w' := by
  have := open_any a c l w A hs hb
  rw [hr] at this
  exact this
theorem refOpen_is (a : Option Addr) (c : Nat) (l : List UInt8) (p : Pg.Page) (k : Nat) (X : Int) (hr : Pg.openL l = (p, k, X)) (w : World) (hb : BytesAt w (.slice a l.length c) l) :
    Calls Tryd.prog 35 #[.slice a l.length c] w fun e w' => (∃ a1 c1, e = .returned (.tuple #[.agg #[.int .i64 p.kind, .int .i64 p.id, .int .u64 (p.gen : Int), .slice a1 p.body.length c1], .int .i64 (k : Int), .int .i64 X]) ∧ Own w' w.heap.size (.slice a1 p.body.length c1) p.body) ∧ Below w.heap.size w w' := by
  have := refOpen_any a c l w hb
  rw [hr] at this
  exact this
theorem faultPage_is (x : Int) (l : List Int) (hx : pageOf l = x) (k : Nat) (v : Value) (w : World) (A : Nat → Addr) (B : Nat) (hg : w.cell? ⟨9, 0, none⟩ = some errorTypeV) (hE : ErrIs w A B l k v) (hlen : l.length ≤ 900) :
    Calls Tryd.prog 36 #[v] w fun e w' => e = .returned (.int .i64 x) ∧ Below w.heap.size w w' := by
  subst hx; exact faultPage_any l k v w A B hg hE hlen
theorem ErrIs.below' {w w' : World} {A : Nat → Addr} {B : Nat} {l : List Int} {k : Nat} {v : Value} (h : ErrIs w A B l k v) (hb : Below w.heap.size w w') : ErrIs w' A B l k v := h.below hb
/-- 'e == nil', 'e != nil' of an error -/
theorem ErrIs.zero_or {w : World} {A : Nat → Addr} {B : Nat} {l : List Int} {k : Nat} {v : Value} (h : ErrIs w A B l k v) : (k = 0 ∧ v = .nilIface) ∨ (k ≠ 0 ∧ ∃ t x, v = .iface t x) := by
  by_cases hk : k = 0
  · subst hk; exact .inl ⟨rfl, h.isNil.1⟩
  · exact .inr ⟨hk, h.iface hk⟩

set_option maxRecDepth 100000 in
set_option maxHeartbeats 2000000 in
theorem pagePlaces_walk (v : Value) (l : List UInt8) (id : Int) (w : World) (A : Nat → Addr) (hs : Sents w A) (hg : w.cell? ⟨9, 0, none⟩ = some errorTypeV) (hb : BytesAt w v l) :
    Calls Tryd.prog 11 #[v, .int .i64 id] w fun e w' => e = .returned (.bool true) ∧ Below w.heap.size w w' := by
  have HS := Lib.hid hs
  have HB := Lib.hid hb
  have HG := Lib.hid hg
  have hlg : 9 < w.heap.size := World.block_lt_of_cell? w _ hg
  obtain ⟨p, k, X, hr⟩ : ∃ p k X, Pg.openAtL l id = (p, k, X) := ⟨_, _, _, rfl⟩
  have HR := Lib.hid hr
  have hC := pageEq_self p
  obtain ⟨a, c, rfl, -, -, -⟩ := hb
  clear hs hg hr
  go_enter Tryd.func11, Tryd.ntmps11
  go_upto_region 2 with (go_at_call 37; (refine (openAt_is a c l id p k X HR.out _ A HS.out HB.out).mono ?_); (rintro e w1 ⟨⟨a1, c1, ev, lp, rfl, ho1, hE1, hp1, hl1⟩, hb1⟩); (have HO1 := Lib.hid ho1); (have HE1 := Lib.hid hE1); (have HP1 := Lib.hid hp1); (have HB1 := Lib.hid hb1); (have hs1 := hb1.size); (clear ho1 hE1 hp1 hb1))
  refine wp_name fun W hW => ?_
  have hX1 : Box4 W w1.heap.size (.int .i64 p.kind) (.int .i64 p.id) (.int .u64 (p.gen : Int)) (.slice a1 p.body.length c1) := by rw [hW]; exact Box4.new _ _ _ _ _ _
  have hbW : Below w1.heap.size w1 W := by rw [hW]; go_grown
  have HX1 := Lib.hid hX1
  have HBW := Lib.hid (HB1.out.trans (hbW.mono hs1))
  replace HO1 := Lib.hid (HO1.out.bytes.below hbW)
  replace HE1 := Lib.hid (HE1.out.below' hbW)
  have hs2 := HBW.out.size
  clear hX1 hbW hW
  go_upto_region 3 with (go_at_call 38; (refine (refOpenAt_is a c l id p k X HR.out _ (HB.out.below HBW.out)).mono ?_); (rintro e w2 ⟨⟨a2, c2, rfl, ho2⟩, hb2⟩); (have HO2 := Lib.hid ho2); (have HB2 := Lib.hid hb2); (have hs3 := hb2.size); (clear ho2 hb2))
  refine wp_name fun W2 hW2 => ?_
  have hbW2 : Below W.heap.size W W2 := by rw [hW2]; have := HB2.out; go_grown
  have hX2 : Box4 W2 w2.heap.size (.int .i64 p.kind) (.int .i64 p.id) (.int .u64 (p.gen : Int)) (.slice a2 p.body.length c2) := by rw [hW2]; exact Box4.new _ _ _ _ _ _
  replace HO2 := Lib.hid (show BytesAt W2 (.slice a2 p.body.length c2) p.body by rw [hW2]; exact (HO2.out.alloc _).bytes)
  have HX2 := Lib.hid hX2
  have HBW2 := Lib.hid hbW2
  clear hW2 hX2 hbW2
  have HBA := Lib.hid (HBW.out.trans (HBW2.out.mono hs2))
  have HX1' := Lib.hid (HX1.out.below HBW2.out)
  have HS2 := Lib.hid (HS.out.below HBA.out)
  have HE2 := Lib.hid (HE1.out.below' HBW2.out)
  have HG2 := Lib.hid ((HBA.out.cell (p := ⟨9, 0, none⟩) hlg).trans HG.out)
  have hs4 := HBA.out.size
  obtain ⟨m0, m1, m2, m3, -, -, -, -⟩ := HX1'.out
  obtain ⟨n0, n1, n2, n3, -, -, -, -⟩ := HX2.out
  go_wp2_with (first
    | (go_at_call 21; (refine (tells05_any HS2.out lp k ev HE2.out _ rfl).mono ?_); (rintro e w3 ⟨rfl, rfl⟩))
    | (go_at_call 36; (refine (faultPage_is X lp HP1.out k ev _ A _ HG2.out HE2.out (by omega)).mono ?_); (rintro e w3 ⟨rfl, hb3⟩); (have HB3 := Lib.hid hb3); (have hs5 := hb3.size); (obtain ⟨x0, x1, x2, x3, -, -, -, -⟩ := HX1'.out.below hb3); (obtain ⟨y0, y1, y2, y3, -, -, -, -⟩ := HX2.out.below hb3); (clear hb3))
    | (go_at_call 16; (refine (refSame_any p p _ _ _ ((HO1.out.below HBW2.out).below HB3.out) (HO2.out.below HB3.out)).mono ?_); (rintro e w4 ⟨rfl, hb4⟩); (have HB4 := Lib.hid (below_step HB3.out hb4)); (clear hb4))
    | (go_at_call 18; (refine (pageAwake_any _ A (HS2.out.below HB4.out)).mono ?_); (rintro e w5 ⟨rfl, hb5⟩); (have HB5 := Lib.hid (below_step HB4.out hb5)); (clear hb5)))
  go_ret
  exact ⟨rfl, HBA.out.trans (HB5.out.mono hs4)⟩
end Go.Proofs.YtaofhdoieffhhaaDoor
