/- boxes of any number of cells: a local of the call's own whose address is taken, or a result in memory -/
import Derived.Test.YtflbioiildndoaaDoorSteps
namespace Go.Proofs.YtflbioiildndoaaDoor
open Go.RowKit

/-- the box at block r holds these -/
def BoxAt (w : World) (r : Nat) (vs : List Value) : Prop := r < w.heap.size ∧ ∀ i v, vs[i]? = some v → w.cell? ⟨r, i, none⟩ = some v ∧ w.frozen? ⟨r, i, none⟩ = false
theorem BoxAt.new (w : World) (vs : List Value) (t : TypeId) : BoxAt (w.alloc (.cells vs.toArray t)) w.heap.size vs := by
  refine ⟨by simp, fun i v hv => ⟨?_, ?_⟩⟩
  · rw [cell_of_row _ w.heap.size i _ t (0, 0) (heap_alloc_new w _)]
    simpa using hv
  · exact World.frozen?_alloc_at _ _ _ _ rfl
theorem BoxAt.newAt (w : World) (r : Nat) (hr : w.heap.size = r) (vs : List Value) (t : TypeId) : BoxAt (w.alloc (.cells vs.toArray t)) r vs := by
  subst hr; exact BoxAt.new w vs t
theorem BoxAt.lt {w : World} {r : Nat} {vs : List Value} (h : BoxAt w r vs) : r < w.heap.size := h.1
theorem BoxAt.grownR {w w' : World} {row : Option Nat} {r : Nat} {vs : List Value} (h : BoxAt w r vs) (hg : w.grownBy w' row) (hne : row ≠ some r) : BoxAt w' r vs := by
  have e : w'.heap[r]? = w.heap[r]? := hg.block r h.1 (fun e => hne e.symm)
  refine ⟨Nat.lt_of_lt_of_le h.1 hg.size, fun i v hv => ?_⟩
  obtain ⟨h1, h2⟩ := h.2 i v hv
  exact ⟨by simp only [World.cell?, e] at h1 ⊢; exact h1, by simp only [World.frozen?, e] at h2 ⊢; exact h2⟩
theorem BoxAt.belowB {w w' : World} {B r : Nat} {vs : List Value} (h : BoxAt w r vs) (hb : Below B w w') (hl : r < B) : BoxAt w' r vs := by
  have e : w'.heap[r]? = w.heap[r]? := hb.block r hl
  refine ⟨Nat.lt_of_lt_of_le h.1 hb.size, fun i v hv => ?_⟩
  obtain ⟨h1, h2⟩ := h.2 i v hv
  exact ⟨by simp only [World.cell?, e] at h1 ⊢; exact h1, by simp only [World.frozen?, e] at h2 ⊢; exact h2⟩
theorem BoxAt.below {w w' : World} {r : Nat} {vs : List Value} (h : BoxAt w r vs) (hb : Below w.heap.size w w') : BoxAt w' r vs := h.belowB hb h.1
theorem BoxAt.alloc {w : World} {r : Nat} {vs : List Value} (h : BoxAt w r vs) (o : Obj) : BoxAt (w.alloc o) r vs := h.below ((Below.refl _ _).alloc (Nat.le_refl _) o)
theorem BoxAt.set {w : World} {r k : Nat} {vs : List Value} (h : BoxAt w r vs) (hne : k ≠ r) (j : Nat) (u : Value) : BoxAt (w.setCell ⟨k, j, none⟩ u) r vs :=
  h.grownR (grownBy_set (World.grownBy.refl w (some k)) j u) (by simpa using hne)
/-- a store into the box -/
theorem BoxAt.put {w : World} {r : Nat} {vs : List Value} (h : BoxAt w r vs) (j : Nat) (u : Value) : BoxAt (w.setCell ⟨r, j, none⟩ u) r (vs.set j u) := by
  refine ⟨by simpa using h.1, fun i v hv => ?_⟩
  rw [List.getElem?_set] at hv
  by_cases hij : j = i
  · subst hij
    simp only [if_true] at hv
    split at hv
    · rename_i hl
      obtain rfl : u = v := by simpa using hv
      obtain ⟨h1, h2⟩ := h.2 j vs[j] (List.getElem?_eq_getElem hl)
      exact ⟨World.cell?_setCell_same _ _ _ h1, by rw [World.frozen?_setCell]; exact h2⟩
    · cases hv
  · rw [if_neg hij] at hv
    obtain ⟨h1, h2⟩ := h.2 i v hv
    exact ⟨by rw [World.cell?_setCell_other _ _ _ _ (fun e => hij (Addr.mk.inj e).2.1)]; exact h1, by rw [World.frozen?_setCell]; exact h2⟩
theorem BoxAt.at {w : World} {r : Nat} {vs : List Value} (h : BoxAt w r vs) (i : Nat) (v : Value) (hv : vs[i]? = some v) : w.cell? ⟨r, i, none⟩ = some v := (h.2 i v hv).1
theorem BoxAt.free {w : World} {r : Nat} {vs : List Value} (h : BoxAt w r vs) (i : Nat) (v : Value) (hv : vs[i]? = some v) : w.frozen? ⟨r, i, none⟩ = false := (h.2 i v hv).2
theorem BoxAt.two {w : World} {r : Nat} {v0 v1 : Value} (h : BoxAt w r [v0, v1]) :
    w.cell? ⟨r, 0, none⟩ = some v0 ∧ w.cell? ⟨r, 1, none⟩ = some v1 := ⟨h.at 0 _ rfl, h.at 1 _ rfl⟩
theorem BoxAt.three {w : World} {r : Nat} {v0 v1 v2 : Value} (h : BoxAt w r [v0, v1, v2]) :
    w.cell? ⟨r, 0, none⟩ = some v0 ∧ w.cell? ⟨r, 1, none⟩ = some v1 ∧ w.cell? ⟨r, 2, none⟩ = some v2 := ⟨h.at 0 _ rfl, h.at 1 _ rfl, h.at 2 _ rfl⟩
theorem BoxAt.four {w : World} {r : Nat} {v0 v1 v2 v3 : Value} (h : BoxAt w r [v0, v1, v2, v3]) :
    w.cell? ⟨r, 0, none⟩ = some v0 ∧ w.cell? ⟨r, 1, none⟩ = some v1 ∧ w.cell? ⟨r, 2, none⟩ = some v2 ∧ w.cell? ⟨r, 3, none⟩ = some v3 := ⟨h.at 0 _ rfl, h.at 1 _ rfl, h.at 2 _ rfl, h.at 3 _ rfl⟩
theorem BoxAt.five {w : World} {r : Nat} {v0 v1 v2 v3 v4 : Value} (h : BoxAt w r [v0, v1, v2, v3, v4]) :
    w.cell? ⟨r, 0, none⟩ = some v0 ∧ w.cell? ⟨r, 1, none⟩ = some v1 ∧ w.cell? ⟨r, 2, none⟩ = some v2 ∧ w.cell? ⟨r, 3, none⟩ = some v3 ∧ w.cell? ⟨r, 4, none⟩ = some v4 := ⟨h.at 0 _ rfl, h.at 1 _ rfl, h.at 2 _ rfl, h.at 3 _ rfl, h.at 4 _ rfl⟩
theorem BoxAt.four_free {w : World} {r : Nat} {v0 v1 v2 v3 : Value} (h : BoxAt w r [v0, v1, v2, v3]) :
    w.frozen? ⟨r, 0, none⟩ = false ∧ w.frozen? ⟨r, 1, none⟩ = false ∧ w.frozen? ⟨r, 2, none⟩ = false ∧ w.frozen? ⟨r, 3, none⟩ = false := ⟨h.free 0 _ rfl, h.free 1 _ rfl, h.free 2 _ rfl, h.free 3 _ rfl⟩
theorem BoxAt.five_free {w : World} {r : Nat} {v0 v1 v2 v3 v4 : Value} (h : BoxAt w r [v0, v1, v2, v3, v4]) :
    w.frozen? ⟨r, 0, none⟩ = false ∧ w.frozen? ⟨r, 1, none⟩ = false ∧ w.frozen? ⟨r, 2, none⟩ = false ∧ w.frozen? ⟨r, 3, none⟩ = false ∧ w.frozen? ⟨r, 4, none⟩ = false := ⟨h.free 0 _ rfl, h.free 1 _ rfl, h.free 2 _ rfl, h.free 3 _ rfl, h.free 4 _ rfl⟩
/-- the world under a name -/
theorem wp_name {P : Program} {s : Code} {Q : Exit → Act → World → Prop} {a : Act} {w : World} (h : ∀ W, W = w → s.wp P Q a W) : s.wp P Q a w := h w rfl
end Go.Proofs.YtflbioiildndoaaDoor
