/- regions that draw their order: what is made in them, the world behind it under a name -/
import Derived.Test.YtflbioiildndoaaDoorOwn
import Derived.Test.YtflbioiildndoaaDoorMix
namespace Go.Proofs.YtflbioiildndoaaDoor
open Go.RowKit

theorem grown_size {w w' : World} {row : Option Nat} (h : w.grownBy w' row) : w.heap.size ≤ w'.heap.size := h.size
theorem alloc_facts (w : World) (o : Obj) : ∃ r w', w.heap.size = r ∧ w.alloc o = w' ∧ w'.heap[r]? = some o ∧ w.grownBy w' none ∧ w.heap.size ≤ r ∧ r < w'.heap.size :=
  ⟨_, _, rfl, rfl, heap_alloc_new w o, grown_alloc w none o, Nat.le_refl _, by simp⟩
/-- what a row that is new at D becomes is nothing to D -/
theorem grown_new {D w w' : World} {row : Option Nat} (h : D.grownBy w none) (k : w.grownBy w' row) (hr : ∀ g, row = some g → D.heap.size ≤ g) : D.grownBy w' none :=
  ⟨k.os.trans h.os, k.tape.trans h.tape, k.output.trans h.output, Nat.le_trans h.size k.size, fun i hi hne => (k.block i (Nat.lt_of_lt_of_le hi h.size) (fun e => by have := hr i e.symm; omega)).trans (h.block i hi hne)⟩
theorem bytes_grown {D w : World} {v : Value} {l : List UInt8} (h : BytesAt D v l) (k : D.grownBy w none) : BytesAt w v l := h.below (grown_below k (by simp) (Nat.le_refl _))
/-- append of bytes onto a row of the call's own, as one operation of a region that draws -/
theorem step_append_bytes {o : Oper} {a : Act} {w : World} {K : Act → World → Prop} {Q : Exit → Act → World → Prop} (s x : Operand)
    (ho : o.op = .call { callee := .builtin .append, args := #[s, x], argTypes := #[32, 32] }) (base : Nat)
    (v : Value) (l : List UInt8) (hs : a.eval s = v) (hown : Own w base v l)
    (X : Value) (m : List UInt8) (hx : a.eval x = X) (hsrc : BytesAt w X m)
    (hb : l.length + m.length ≤ 140737488355328) (hbase : base ≤ w.heap.size)
    (h : ∀ v' w', Own w' base v' (l ++ m) → w.grownBy w' v.ownBlock → K (a.put o.dst v') w') : o.wp Tryd.prog a w K Q := by
  obtain ⟨i, hi, hz, hs1, hb1⟩ := info_parts Tryd.infoByte
  obtain ⟨v', w', hrun, h2, h3, h4⟩ := run_append_own_src (P := Tryd.prog) w base 32 32 o.type 5 i _ 1 1 Tryd.underlying32 hi hz hs1 hb1 rfl v l.length (bytesV l) hown X m.length (bytesV m) hsrc.src (by unfold maxLen; omega) (by omega) hbase
  unfold Oper.wp
  simp [execOp, ho, resolve, invoke, builtin, hs, hx, hrun, Result.andThen]
  refine h v' w' ?_ h3
  unfold Own
  rw [bytesV_append, List.length_append]
  exact h2
/-- '[]byte{}' -/
theorem own_empty {r : Nat} {w' : World} {S : Nat} (hr : w'.heap[r]? = some (.cells #[] 5 (0, 0))) (hS : S ≤ r) : Own w' S (.slice (some ⟨r, 0, none⟩) 0 0) [] :=
  ⟨rfl, .inr ⟨r, 0, #[], rfl, hS, hr, Nat.le_refl _, Nat.zero_le _, rfl, rfl⟩⟩
theorem own_grown {w w' : World} {S : Nat} {v : Value} {l : List UInt8} (h : Own w S v l) (k : w.grownBy w' none) : Own w' S v l := h.grown k (by cases v.ownBlock with | none => exact .inl rfl | some g => exact .inr (by simp))
theorem heap_grown {w w' : World} {r : Nat} {o : Obj} {row : Option Nat} (h : w.heap[r]? = some o) (k : w.grownBy w' row) (hr : row ≠ some r) : w'.heap[r]? = some o := by
  rw [k.block r (Array.getElem?_eq_some_iff.1 h).1 (fun e => hr e.symm)]; exact h
end Go.Proofs.YtflbioiildndoaaDoor
