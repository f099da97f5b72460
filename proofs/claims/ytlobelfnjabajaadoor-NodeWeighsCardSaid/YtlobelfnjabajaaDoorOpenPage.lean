/- what an argument reads as: a page that came in; the variable errors.errorType -/
import Derived.Test.YtlobelfnjabajaaDoorOpen
import Derived.Test.YtlobelfnjabajaaDoorPageMath
import Derived.Test.YtlobelfnjabajaaDoorLaid
import Derived.Test.YtlobelfnjabajaaDoorFaultPage
import Derived.Lib.SmallJoins
import Derived.LaidHandle
import Derived.Stop.Joined
namespace Go.Proofs.YtlobelfnjabajaaDoor
open Go.Joins Go.ChangeShapes Go.WideShapes Go.ChangeAt Go.RowKit Go.Deep

/-- a slice of bytes, as a part -/
theorem part_bytes {H : Type} {enc : TypeId × Value → H} {W : World} {n : Nat} {v : Value} {y : DataW H × List MemPlace}
    (hf : DataW.trod enc Tryd.prog W 0 (fun _ => true) true n 27 [v] = some y) :
    ∃ l a c, v = .slice a l.length c ∧ BytesAt W v l ∧ ((l = []) ∨ ∃ elems spare, y.1 = .slice elems spare ∧ l.length = elems.length) := by
  rcases open_ints Tryd.underlying27 Tryd.underlying5 cellsOfByte hf with ⟨hcs, hx⟩ | ⟨x, n, c, zs, hcs, _, hl, hm, hz, hx, hcell, hwz⟩
  · simp only [List.cons.injEq, and_true] at hcs
    subst hcs
    exact ⟨[], none, 0, rfl, BytesAt.nil W, .inl rfl⟩
  · simp only [List.cons.injEq, and_true] at hcs
    subst hcs
    simp only [if_true] at hz
    obtain ⟨l, rfl⟩ := bytes_of_ints zs hwz
    simp only [List.length_map] at hz
    have hlen : (l.take n).length = n := by simp; omega
    refine ⟨l.take n, _, c, by rw [hlen], ⟨_, c, by rw [hlen], by omega, hm, ?_⟩, .inr ⟨_, _, by rw [hx], by simp [lits]⟩⟩
    by_cases h0 : l.take n = []
    · exact .inl h0
    · right
      obtain ⟨b, off, spot⟩ := x
      have hne : l ≠ [] := fun e => h0 (by rw [e]; simp)
      have hpos : 0 < (l.map fun x => (x.toNat : Int)).length := by
        cases l with
        | nil => exact absurd rfl hne
        | cons _ _ => simp
      have hspot : spot = none := by simpa [Addr.add] using World.cell?_spot (hcell 0 hpos)
      subst hspot
      refine ⟨b, off, rfl, fun i y hy => ?_⟩
      rw [List.getElem?_take] at hy
      split at hy
      · have hi : i < l.length := (List.getElem?_eq_some_iff.1 hy).1
        have := hcell i (by simpa using hi)
        rw [add_plain] at this
        rw [this]
        simp [List.getD, hy]
      · cases hy

set_option maxRecDepth 100000 in
theorem open_page {H : Type} {enc : TypeId × Value → H} {W : World} {base : Nat} {v : Value} {d : DataW H} {p : List MemPlace}
    (hv : Value.okWide Tryd.prog W .any base 113 v) (h : DataW.Trod enc Tryd.prog W 0 (fun _ => true) true 113 v d p) :
    ∃ (q : Pg.Page) (a : Option Addr) (c : Nat), v = .agg #[.int .i64 q.kind, .int .i64 q.id, .int .u64 (q.gen : Int), .slice a q.body.length c] ∧ BytesAt W (.slice a q.body.length c) q.body ∧ q.gen < 18446744073709551616 ∧
      ∃ d0 d1 d2 d3, d = .agg [d0, d1, d2, d3] ∧ (q.body = [] ∨ ∃ elems spare, d3 = .slice elems spare ∧ q.body.length = elems.length) := by
  obtain ⟨v0, v1, v2, v3, y0, y1, y2, y3, n, rfl, rfl, rfl, t0, t1, t2, t3⟩ := open_agg4 Tryd.underlying113 (by kernel_rfl) (by kernel_rfl) hv h
  obtain ⟨a0, e0, _, _⟩ := DataW.trod_int Tryd.underlying3 t0
  obtain ⟨a1, e1, _, _⟩ := DataW.trod_int Tryd.underlying3 t1
  obtain ⟨a2, e2, hw2, hx2⟩ := DataW.trod_int Tryd.underlying48 t2
  simp only [List.cons.injEq, and_true] at e0 e1 e2
  subst e0 e1 e2
  obtain ⟨l, a, c, rfl, hb, hl⟩ := part_bytes t3
  obtain ⟨g, rfl, hg⟩ := u64_nat hx2
  exact ⟨⟨a0, a1, g, l⟩, a, c, rfl, hb, hg, _, _, _, _, rfl, hl⟩

theorem reach_page {H : Type} {ts : List TypeId} {ds : List (DataW H)} (hsz : (DataW.weightsEach Tryd.prog ts ds).all (· ≤ reachBytes) = true) {j : Nat} {d : DataW H} (ht : ts[j]? = some 113) (hd : ds[j]? = some d)
    {l : List UInt8} (h : ∃ d0 d1 d2 d3, d = .agg [d0, d1, d2, d3] ∧ (l = [] ∨ ∃ elems spare, d3 = .slice elems spare ∧ l.length = elems.length)) : l.length ≤ 140737488351232 := by
  obtain ⟨d0, d1, d2, d3, rfl, h⟩ := h
  rcases h with rfl | ⟨elems, spare, rfl, hl⟩
  · simp
  · have hm := DataW.weights_mem_each (P := Tryd.prog) ht hd ((elems.length + spare.length) * 1) (by
      simp [DataW.weights, DataW.weightsEach, Tryd.underlying113, Tryd.underlying27, bytesOfByte])
    have hle : (elems.length + spare.length) * 1 ≤ 140737488351232 := of_decide_eq_true (List.all_eq_true.1 hsz _ hm)
    omega

/-! ### errors.errorType -/
theorem Tryd.etNamed : Tryd.prog.globalNamed "errors.errorType" = some 9 := by kernel_rfl
theorem Tryd.rtCut : (Tryd.prog.cutTypes.find? (·.1 == "internal/reflectlite.rtype")).map (·.2) = some 171 := by kernel_rfl
theorem Tryd.oneRow : ((List.range Tryd.prog.types.size).filter fun t => Tryd.prog.rowNamed t [101, 114, 114, 111, 114]) = [31] := by kernel_rfl
theorem handle_of_laid {W : World} {L : List (String × DataW Unit)} (h : handlesMet Tryd.prog L W) (hm : ("errors.errorType", (.iface "internal/reflectlite.rtype" (.agg [.ptr (.lit (.string [101, 114, 114, 111, 114]))]) : DataW Unit)) ∈ L) : W.cell? ⟨9, 0, none⟩ = some errorTypeV := by
  obtain ⟨name, u, ty, e1, e2, e3, e4, e5⟩ := h _ hm
  have en : name = [101, 114, 114, 111, 114] := (Option.some.inj e1).symm
  subst en
  obtain rfl := Option.some.inj (Tryd.rtCut.symm.trans e2)
  have hm : ty ∈ (List.range Tryd.prog.types.size).filter fun t => Tryd.prog.rowNamed t [101, 114, 114, 111, 114] := List.mem_filter.2 ⟨List.mem_range.2 e3, e4⟩
  rw [Tryd.oneRow] at hm
  obtain rfl := List.mem_singleton.1 hm
  have hh : typeHandle Tryd.prog 31 = .pointer (some ⟨10, 31, none⟩) := by kernel_rfl
  rw [hh] at e5
  simpa [errorTypeV] using World.var?_cell Tryd.etNamed e5 0
/-- the nine, and the variable: a world for the witness -/
noncomputable def laidWorldT (os : Os) : World :=
  let w0 := laidWorld os
  { w0 with heap := w0.heap.modify 9 fun
      | .cells _ t frozen => .cells #[errorTypeV] t frozen
      | o => o }
end Go.Proofs.YtlobelfnjabajaaDoor
