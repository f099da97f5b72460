/- what an argument reads as: a map that came in; what is asked of a block -/
import Derived.Test.YtlobelfnjabajaaDoorOpenPage
import Derived.Test.YtlobelfnjabajaaDoorInts
import Derived.Test.YtlobelfnjabajaaDoorBitmapMath
namespace Go.Proofs.YtlobelfnjabajaaDoor
open Go.Joins Go.ChangeShapes Go.WideShapes Go.ChangeAt Go.RowKit Go.Deep

theorem cellsOfInt1 : Tryd.prog.cellsOf 3 = 1 := by kernel_rfl
/-- a slice of ints, as a part -/
theorem part_ints {H : Type} {enc : TypeId × Value → H} {W : World} {n : Nat} {v : Value} {y : DataW H × List MemPlace}
    (hf : DataW.trod enc Tryd.prog W 0 (fun _ => true) true n 24 [v] = some y) :
    ∃ l a c, v = .slice a l.length c ∧ IntsAt W v l := by
  rcases open_ints Tryd.underlying24 Tryd.underlying3 cellsOfInt1 hf with ⟨hcs, hx⟩ | ⟨x, n, c, l, hcs, _, hl, hm, hz, hx, hcell, hwz⟩
  · simp only [List.cons.injEq, and_true] at hcs
    subst hcs
    exact ⟨[], none, 0, rfl, IntsAt.nil W⟩
  · simp only [List.cons.injEq, and_true] at hcs
    subst hcs
    simp only [if_true] at hz
    have hlen : (l.take n).length = n := by simp; omega
    refine ⟨l.take n, _, c, by rw [hlen], ⟨_, c, by rw [hlen], by omega, hm, ?_⟩⟩
    by_cases h0 : l.take n = []
    · exact .inl h0
    · right
      obtain ⟨b, off, spot⟩ := x
      have hne : l ≠ [] := fun e => h0 (by rw [e]; simp)
      have hpos : 0 < l.length := by
        cases l with
        | nil => exact absurd rfl hne
        | cons _ _ => simp
      have hspot : spot = none := by simpa [Addr.add] using World.cell?_spot (hcell 0 hpos)
      subst hspot
      refine ⟨b, off, rfl, fun i y hy => ?_⟩
      rw [List.getElem?_take] at hy
      split at hy
      · have hi : i < l.length := (List.getElem?_eq_some_iff.1 hy).1
        have := hcell i hi
        rw [add_plain] at this
        rw [this]
        simp [List.getD, hy]
      · cases hy
set_option maxRecDepth 100000 in
theorem open_map {H : Type} {enc : TypeId × Value → H} {W : World} {base : Nat} {v : Value} {d : DataW H} {p : List MemPlace}
    (hv : Value.okWide Tryd.prog W .any base 50 v) (h : DataW.Trod enc Tryd.prog W 0 (fun _ => true) true 50 v d p) :
    ∃ (q : Bm.Map) (a : Option Addr) (c : Nat), v = .agg #[.int .u64 (q.gen : Int), .int .i64 q.blocks, .slice a q.used.length c] ∧ IntsAt W (.slice a q.used.length c) q.used ∧ q.gen < 18446744073709551616 ∧ (-9223372036854775808 ≤ q.blocks ∧ q.blocks ≤ 9223372036854775807) := by
  obtain ⟨v0, v1, v2, y0, y1, y2, n, rfl, rfl, rfl, t0, t1, t2⟩ := open_agg3 Tryd.underlying50 (by kernel_rfl) (by kernel_rfl) hv h
  obtain ⟨a0, e0, hw0, hx0⟩ := DataW.trod_int Tryd.underlying48 t0
  obtain ⟨a1, e1, hw1, hx1⟩ := DataW.trod_int Tryd.underlying3 t1
  simp only [List.cons.injEq, and_true] at e0 e1
  subst e0 e1
  obtain ⟨l, a, c, rfl, hb⟩ := part_ints t2
  obtain ⟨g, rfl, hg⟩ := u64_nat hx0
  exact ⟨⟨g, a1, l⟩, a, c, rfl, hb, hg, i64_bd hx1⟩
set_option maxRecDepth 100000 in
theorem open_asked {H : Type} {enc : TypeId × Value → H} {W : World} {base : Nat} {v : Value} {d : DataW H} {p : List MemPlace}
    (hv : Value.okWide Tryd.prog W .any base 78 v) (h : DataW.Trod enc Tryd.prog W 0 (fun _ => true) true 78 v d p) :
    ∃ (x y : Int) (g : Nat), v = .agg #[.int .i64 x, .int .i64 y, .int .u64 (g : Int)] ∧ g < 18446744073709551616 := by
  obtain ⟨v0, v1, v2, y0, y1, y2, n, rfl, rfl, rfl, t0, t1, t2⟩ := open_agg3 Tryd.underlying78 (by kernel_rfl) (by kernel_rfl) hv h
  obtain ⟨a0, e0, _, _⟩ := DataW.trod_int Tryd.underlying3 t0
  obtain ⟨a1, e1, _, _⟩ := DataW.trod_int Tryd.underlying3 t1
  obtain ⟨a2, e2, hw2, hx2⟩ := DataW.trod_int Tryd.underlying48 t2
  simp only [List.cons.injEq, and_true] at e0 e1 e2
  subst e0 e1 e2
  obtain ⟨g, rfl, hg⟩ := u64_nat hx2
  exact ⟨a0, a1, g, rfl, hg⟩
end Go.Proofs.YtlobelfnjabajaaDoor
