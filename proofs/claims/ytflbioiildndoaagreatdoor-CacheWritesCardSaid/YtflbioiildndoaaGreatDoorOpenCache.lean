/- what an argument reads as: a call of a cache, a row of calls, a burst -/
import Derived.Test.YtflbioiildndoaaGreatDoorOpenBlk
import Derived.Test.YtflbioiildndoaaGreatDoorCacheA
namespace Go.Proofs.YtflbioiildndoaaGreatDoor
open Go.Joins Go.ChangeShapes Go.WideShapes Go.ChangeAt Go.RowKit Go.Deep

theorem cellsOfBool8 : Tryz.prog.cellsOf 4 = 1 := by kernel_rfl
theorem cellsOfAct8 : Tryz.prog.cellsOf 43 = 4 := by kernel_rfl
theorem cellsOfInt8 : Tryz.prog.cellsOf 3 = 1 := by kernel_rfl
theorem cellsOfU88 : Tryz.prog.cellsOf 5 = 1 := by kernel_rfl
instance : Inhabited CCall := ⟨⟨0, 0, 0, false⟩⟩
theorem u8_of {z : Int} (h : (Lit.int .u8 z).wf = true) : ∃ x : UInt8, z = (x.toNat : Int) := by
  obtain ⟨f, hf⟩ := bytes_of_ints [z] (fun y hy => by simp only [List.mem_singleton] at hy; subst hy; exact h)
  cases f with
  | nil => simp at hf
  | cons x r => simp at hf; exact ⟨x, hf.1⟩
set_option maxRecDepth 100000 in
theorem part_act8 {H : Type} {enc : TypeId × Value → H} {W : World} {n : Nat} {cs : List Value} {y : DataW H × List MemPlace}
    (hf : DataW.trod enc Tryz.prog W 0 (fun _ => true) true n 43 cs = some y) : ∃ a : CCall, cs = a.cells := by
  obtain ⟨xs, n, _, hx, hl, hlen, hg⟩ := DataW.trod_struct Tryz.underlying43 hf
  rw [cellsOfAct8] at hl
  match xs, hlen, cs, hl with
  | [y0, y1, y2, y3], _, [c0, c1, c2, c3], _ =>
    have t0 : DataW.trod enc Tryz.prog W 0 (fun _ => true) true n 3 [c0] = some y0 := by simpa [cellsOfInt8] using hg 0 _ rfl
    have t1 : DataW.trod enc Tryz.prog W 0 (fun _ => true) true n 3 [c1] = some y1 := by simpa [cellsOfInt8] using hg 1 _ rfl
    have t2 : DataW.trod enc Tryz.prog W 0 (fun _ => true) true n 5 [c2] = some y2 := by simpa [cellsOfU88] using hg 2 _ rfl
    have t3 : DataW.trod enc Tryz.prog W 0 (fun _ => true) true n 4 [c3] = some y3 := by simpa [cellsOfBool8] using hg 3 _ rfl
    obtain ⟨a0, e0, _, _⟩ := DataW.trod_int Tryz.underlying3 t0
    obtain ⟨a1, e1, _, _⟩ := DataW.trod_int Tryz.underlying3 t1
    obtain ⟨a2, e2, hw2, hx2⟩ := DataW.trod_int Tryz.underlying5 t2
    obtain ⟨a3, e3, _⟩ := DataW.trod_bool Tryz.underlying4 t3
    simp only [List.cons.injEq, and_true] at e0 e1 e2 e3
    subst e0 e1 e2 e3
    obtain ⟨x, rfl⟩ := u8_of hx2
    exact ⟨⟨a0, a1, x, a3⟩, rfl⟩
set_option maxRecDepth 100000 in
theorem open_acts08 {H : Type} {enc : TypeId × Value → H} {W : World} {base : Nat} {v : Value} {d : DataW H} {p : List MemPlace}
    (hv : Value.okWide Tryz.prog W .any base 22 v) (h : DataW.Trod enc Tryz.prog W 0 (fun _ => true) true 22 v d p) :
    ∃ l, RowAt eCC W v l := by
  obtain ⟨aa, len, cap, rfl⟩ := okWide_slice Tryz.underlying22 hv
  obtain ⟨fuel, hf⟩ := h
  rcases open_slice Tryz.underlying22 hf with ⟨hcs, hx⟩ | ⟨x, len', c, m, n, D, Pl, hcs, _, hl, hm, hmm, hx, hcell⟩
  · simp only [Value.cells] at hcs
    obtain ⟨rfl, rfl, rfl⟩ : aa = none ∧ len = 0 ∧ cap = 0 := by simpa using hcs
    exact ⟨[], RowAt.nil _ W⟩
  · simp only [Value.cells] at hcs
    obtain ⟨rfl, rfl, rfl⟩ : aa = some x ∧ len = len' ∧ cap = c := by simpa using hcs
    have each : ∀ i, i < len → ∃ e : CCall, (∀ (j : Nat) u, (eCC.enc e)[j]? = some u → W.cell? (x.add (i * 4 + j)) = some u) := by
      intro i hi
      obtain ⟨cs', h1, h2⟩ := hcell i (by rw [hmm]; split <;> omega)
      obtain ⟨e, rfl⟩ := part_act8 h2
      rw [cellsOfAct8] at h1
      obtain ⟨_, hlen, hc⟩ := World.cells?_some h1
      refine ⟨e, fun j u hu => ?_⟩
      have hj : j < 4 := by have := (List.getElem?_eq_some_iff.1 hu).1; simpa [CCall.cells] using this
      have := hc j hj
      rw [add_add] at this
      rw [this]
      exact hu
    obtain ⟨q, hq⟩ := choose_lt each
    refine ⟨(List.range len).map q, some x, cap, by simp, by simpa using hl, hm, ?_⟩
    by_cases h0 : len = 0
    · subst h0; exact .inl (by simp)
    · right
      obtain ⟨b, off, spot⟩ := x
      have hspot : spot = none := by simpa [Addr.add] using World.cell?_spot (hq 0 (by omega) 0 _ rfl)
      subst hspot
      refine ⟨b, off, rfl, fun i y hy j u hu => ?_⟩
      have hi : i < len := by have := (List.getElem?_eq_some_iff.1 hy).1; simpa using this
      have hyq : y = q i := by rw [List.getElem?_map, List.getElem?_range hi] at hy; simpa using hy.symm
      subst hyq
      have := hq i hi j u hu
      rw [add_plain] at this
      exact this
end Go.Proofs.YtflbioiildndoaaGreatDoor
