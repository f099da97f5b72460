/- what an argument reads as: a slice of structs of two ints that came in -/
import Derived.Test.YtlkpdehajkffaaaDoorOpen
import Derived.Test.YtlkpdehajkffaaaDoorElem
import Derived.Deep.SlicePairs
namespace Go.Proofs.YtlkpdehajkffaaaDoor
open Go.ChangeShapes Go.WideShapes Go.ChangeAt Go.RowKit Go.Deep
/-- a call's two numbers -/
abbrev eAct : Elem (Int × Int) := ⟨34, 43, 2, 16, .agg #[.int .i64 0, .int .i64 0], fun x => [.int .i64 x.1, .int .i64 x.2]⟩
theorem infoAct : (Tryd.prog.info? 43).map (fun i => (i.zero, i.size, i.bytes)) = some (some (.agg #[.int .i64 0, .int .i64 0]), 2, 16) := by kernel_rfl
theorem eAct_ok : eAct.Ok where
  len _ := rfl
  one x u hu := by simp at hu; rcases hu with rfl | rfl <;> rfl
  und := Tryd.underlying34
  info := infoAct
  zs := rfl
theorem cellsOfAct : Tryd.prog.cellsOf 43 = 2 := by kernel_rfl
theorem cellsOfInt : Tryd.prog.cellsOf 3 = 1 := by kernel_rfl
set_option maxRecDepth 100000 in
theorem open_acts {H : Type} {enc : TypeId × Value → H} {W : World} {base : Nat} {v : Value} {d : DataW H} {p : List MemPlace}
    (hv : Value.okWide Tryd.prog W .any base 34 v) (h : DataW.Trod enc Tryd.prog W 0 (fun _ => true) true 34 v d p) : ∃ l, RowAt eAct W v l := by
  obtain ⟨a, len, cap, rfl⟩ := okWide_slice Tryd.underlying34 hv
  obtain ⟨fuel, hf⟩ := h
  rcases open_slice_pairs Tryd.underlying34 Tryd.underlying43 cellsOfAct rfl rfl cellsOfInt cellsOfInt hf with ⟨hcs, _⟩ | ⟨x, n, c, m, k, V0, V1, D0, D1, P0, P1, hcs, _, hl, hm, hmm, hx, hcell⟩
  · simp [Value.cells] at hcs
    obtain ⟨rfl, rfl, rfl⟩ := hcs
    exact ⟨[], RowAt.nil _ W⟩
  · simp [Value.cells] at hcs
    obtain ⟨rfl, rfl, rfl⟩ := hcs
    have each : ∀ i, i < len → ∃ q : Int × Int, W.cell? (x.add (i * 2)) = some (.int .i64 q.1) ∧ W.cell? (x.add (i * 2 + 1)) = some (.int .i64 q.2) := by
      intro i hi
      obtain ⟨h0, h1, t0, t1⟩ := hcell i (by rw [hmm]; split <;> omega)
      obtain ⟨a0, e0, _, _⟩ := DataW.trod_int Tryd.underlying3 t0
      obtain ⟨a1, e1, _, _⟩ := DataW.trod_int Tryd.underlying3 t1
      simp only [List.cons.injEq, and_true] at e0 e1
      exact ⟨(a0, a1), by rw [h0, e0], by rw [h1, e1]⟩
    obtain ⟨q, hq⟩ := choose_lt each
    refine ⟨(List.range len).map q, x, cap, by simp, by simpa using hl, hm, ?_⟩
    by_cases h0 : len = 0
    · subst h0; exact .inl (by simp)
    · right
      obtain ⟨b, off, spot⟩ := x
      have hspot : spot = none := by simpa [Addr.add] using World.cell?_spot (hq 0 (by omega)).1
      subst hspot
      refine ⟨b, off, rfl, fun i y hy j u hu => ?_⟩
      have hi : i < len := by have := (List.getElem?_eq_some_iff.1 hy).1; simpa using this
      have hyq : y = q i := by rw [List.getElem?_map, List.getElem?_range hi] at hy; simpa using hy.symm
      subst hyq
      obtain ⟨c0, c1⟩ := hq i hi
      rw [add_plain] at c0 c1
      have hj : j < 2 := by have := (List.getElem?_eq_some_iff.1 hu).1; simpa using this
      rcases (show j = 0 ∨ j = 1 by omega) with rfl | rfl
      · simp at hu; subst hu; exact c0
      · simp at hu; subst hu; exact c1
end Go.Proofs.YtlkpdehajkffaaaDoor
