/- what an argument reads as: a node that came in, an entry that came in -/
import Derived.Test.YtlobelfnjabajaaDoorOpenMap
import Derived.Test.YtlobelfnjabajaaDoorNodeM1
import Derived.SliceStrings
namespace Go.Proofs.YtlobelfnjabajaaDoor
open Go.Joins Go.ChangeShapes Go.WideShapes Go.ChangeAt Go.RowKit Go.Deep

theorem cellsOfStr : Tryd.prog.cellsOf 9 = 1 := by kernel_rfl
theorem cellsOfEnt : Tryd.prog.cellsOf 44 = 4 := by kernel_rfl
/-- a slice of texts, as a part -/
theorem part_strs {H : Type} {enc : TypeId × Value → H} {W : World} {n : Nat} {v : Value} {y : DataW H × List MemPlace}
    (hf : DataW.trod enc Tryd.prog W 0 (fun _ => true) true n 23 [v] = some y) :
    ∃ l a c, v = .slice a l.length c ∧ RowAt eStr W v l := by
  rcases open_strings Tryd.underlying23 Tryd.underlying9 cellsOfStr hf with ⟨hcs, hx⟩ | ⟨x, n, c, l, hcs, _, hl, hm, hz, hx, hcell, hwz⟩
  · simp only [List.cons.injEq, and_true] at hcs
    subst hcs
    exact ⟨[], none, 0, rfl, RowAt.nil _ W⟩
  · simp only [List.cons.injEq, and_true] at hcs
    subst hcs
    simp only [if_true] at hz
    have hlen : (l.take n).length = n := by simp; omega
    refine ⟨l.take n, _, c, by rw [hlen], ⟨_, c, by rw [hlen], by omega, hm, ?_⟩⟩
    by_cases h0 : l.take n = []
    · exact .inl h0
    · right
      obtain ⟨b, off, spot⟩ := x
      have hne : l ≠ [] := fun e => h0 (by rw [e]; simp)
      have hpos : 0 < l.length := by
        cases l with
        | nil => exact absurd rfl hne
        | cons _ _ => simp
      have hspot : spot = none := by simpa [Addr.add] using World.cell?_spot (hcell 0 hpos)
      subst hspot
      refine ⟨b, off, rfl, fun i y hy j u hu => ?_⟩
      have hj : j = 0 := by have := (List.getElem?_eq_some_iff.1 hu).1; simp at this; omega
      subst hj
      simp at hu
      subst hu
      rw [List.getElem?_take] at hy
      split at hy
      · have hi : i < l.length := (List.getElem?_eq_some_iff.1 hy).1
        have := hcell i hi
        rw [add_plain] at this
        simp only [Nat.mul_one, Nat.add_zero]
        rw [this]
        simp [List.getD, hy]
      · cases hy
instance : Inhabited Nd.Ent := ⟨⟨⟨#[]⟩, ⟨#[]⟩, 0, 0⟩⟩
set_option maxRecDepth 100000 in
/-- the cells of an entry -/
theorem part_ent {H : Type} {enc : TypeId × Value → H} {W : World} {n : Nat} {cs : List Value} {y : DataW H × List MemPlace}
    (hf : DataW.trod enc Tryd.prog W 0 (fun _ => true) true n 44 cs = some y) : ∃ e : Nd.Ent, cs = [.string e.key, .string e.value, .int .i64 e.chain, .int .i64 e.size] := by
  obtain ⟨y0, y1, y2, y3, n, hx, hl, h0, h1, h2, h3⟩ := trod_struct4 Tryd.underlying44 hf
  rw [cellsOfEnt] at hl
  match cs, hl with
  | [u0, u1, u2, u3], _ =>
    have g0 : DataW.trod enc Tryd.prog W 0 (fun _ => true) true n 9 [u0] = some y0 := by simpa [cellsOfStr] using h0
    have g1 : DataW.trod enc Tryd.prog W 0 (fun _ => true) true n 9 [u1] = some y1 := by simpa [cellsOfStr] using h1
    have g2 : DataW.trod enc Tryd.prog W 0 (fun _ => true) true n 3 [u2] = some y2 := by simpa [cellsOfInt1] using h2
    have g3 : DataW.trod enc Tryd.prog W 0 (fun _ => true) true n 3 [u3] = some y3 := by simpa [cellsOfInt1] using h3
    obtain ⟨s0, e0, _, _⟩ := DataW.trod_string Tryd.underlying9 g0
    obtain ⟨s1, e1, _, _⟩ := DataW.trod_string Tryd.underlying9 g1
    obtain ⟨a2, e2, _, _⟩ := DataW.trod_int Tryd.underlying3 g2
    obtain ⟨a3, e3, _, _⟩ := DataW.trod_int Tryd.underlying3 g3
    simp only [List.cons.injEq, and_true] at e0 e1 e2 e3
    subst e0 e1 e2 e3
    exact ⟨⟨s0, s1, a2, a3⟩, rfl⟩
/-- a slice of entries, as a part -/
theorem part_ents {H : Type} {enc : TypeId × Value → H} {W : World} {n : Nat} {v : Value} {y : DataW H × List MemPlace}
    (hf : DataW.trod enc Tryd.prog W 0 (fun _ => true) true n 22 [v] = some y) :
    ∃ l a c, v = .slice a l.length c ∧ RowAt eEnt W v l := by
  rcases open_slice Tryd.underlying22 hf with ⟨hcs, hx⟩ | ⟨x, len, c, m, n, D, Pl, hcs, _, hl, hm, hmm, hx, hcell⟩
  · simp only [List.cons.injEq, and_true] at hcs
    subst hcs
    exact ⟨[], none, 0, rfl, RowAt.nil _ W⟩
  · simp only [List.cons.injEq, and_true] at hcs
    subst hcs
    have each : ∀ i, i < len → ∃ e : Nd.Ent, ∀ (j : Nat) u, (eEnt.enc e)[j]? = some u → W.cell? (x.add (i * 4 + j)) = some u := by
      intro i hi
      obtain ⟨cs', h1, h2⟩ := hcell i (by rw [hmm]; split <;> omega)
      obtain ⟨e, rfl⟩ := part_ent h2
      rw [cellsOfEnt] at h1
      obtain ⟨_, hlen, hc⟩ := World.cells?_some h1
      refine ⟨e, fun j u hu => ?_⟩
      have hj : j < 4 := by have := (List.getElem?_eq_some_iff.1 hu).1; simpa using this
      have := hc j hj
      rw [add_add] at this
      rw [this]
      exact hu
    obtain ⟨q, hq⟩ := choose_lt each
    refine ⟨(List.range len).map q, some x, c, by simp, x, c, by simp, by simpa using hl, hm, ?_⟩
    by_cases h0 : len = 0
    · subst h0; exact .inl (by simp)
    · right
      obtain ⟨b, off, spot⟩ := x
      have hspot : spot = none := by simpa [Addr.add] using World.cell?_spot (hq 0 (by omega) 0 _ rfl)
      subst hspot
      refine ⟨b, off, rfl, fun i y hy j u hu => ?_⟩
      have hi : i < len := by have := (List.getElem?_eq_some_iff.1 hy).1; simpa using this
      have hyq : y = q i := by rw [List.getElem?_map, List.getElem?_range hi] at hy; simpa using hy.symm
      subst hyq
      have := hq i hi j u hu
      rw [add_plain] at this
      exact this
set_option maxRecDepth 100000 in
theorem open_node {H : Type} {enc : TypeId × Value → H} {W : World} {base : Nat} {v : Value} {d : DataW H} {p : List MemPlace}
    (hv : Value.okWide Tryd.prog W .any base 26 v) (h : DataW.Trod enc Tryd.prog W 0 (fun _ => true) true 26 v d p) :
    ∃ (lf : Bool) (es : List Nd.Ent) (ks : List ByteArray) (ki : List Int) (a1 a2 a3 : Option Addr) (c1 c2 c3 : Nat), v = .agg #[.bool lf, .slice a1 es.length c1, .slice a2 ks.length c2, .slice a3 ki.length c3] ∧ RowAt eEnt W (.slice a1 es.length c1) es ∧ RowAt eStr W (.slice a2 ks.length c2) ks ∧ IntsAt W (.slice a3 ki.length c3) ki := by
  obtain ⟨v0, v1, v2, v3, y0, y1, y2, y3, n, rfl, rfl, rfl, t0, t1, t2, t3⟩ := open_agg4 Tryd.underlying26 (by kernel_rfl) (by kernel_rfl) hv h
  obtain ⟨lf, e0, _⟩ := DataW.trod_bool Tryd.underlying4 t0
  simp only [List.cons.injEq, and_true] at e0
  subst e0
  obtain ⟨es, a1, c1, rfl, h1⟩ := part_ents t1
  obtain ⟨ks, a2, c2, rfl, h2⟩ := part_strs t2
  obtain ⟨ki, a3, c3, rfl, h3⟩ := part_ints t3
  exact ⟨lf, es, ks, ki, a1, a2, a3, c1, c2, c3, rfl, h1, h2, h3⟩
set_option maxRecDepth 100000 in
theorem open_ent {H : Type} {enc : TypeId × Value → H} {W : World} {base : Nat} {v : Value} {d : DataW H} {p : List MemPlace}
    (hv : Value.okWide Tryd.prog W .any base 44 v) (h : DataW.Trod enc Tryd.prog W 0 (fun _ => true) true 44 v d p) :
    ∃ e : Nd.Ent, v = .agg #[.string e.key, .string e.value, .int .i64 e.chain, .int .i64 e.size] := by
  obtain ⟨v0, v1, v2, v3, y0, y1, y2, y3, n, rfl, rfl, rfl, t0, t1, t2, t3⟩ := open_agg4 Tryd.underlying44 (by kernel_rfl) (by kernel_rfl) hv h
  obtain ⟨s0, e0, _, _⟩ := DataW.trod_string Tryd.underlying9 t0
  obtain ⟨s1, e1, _, _⟩ := DataW.trod_string Tryd.underlying9 t1
  obtain ⟨a2, e2, _, _⟩ := DataW.trod_int Tryd.underlying3 t2
  obtain ⟨a3, e3, _, _⟩ := DataW.trod_int Tryd.underlying3 t3
  simp only [List.cons.injEq, and_true] at e0 e1 e2 e3
  subst e0 e1 e2 e3
  exact ⟨⟨s0, s1, a2, a3⟩, rfl⟩
end Go.Proofs.YtlobelfnjabajaaDoor
