/- the sentinels of package api, errors as chains of faults over them, and the walks of fault.New, fault.Wrap -/
import Derived.Test.YtflbioiildndoaaDoorBase
import Derived.LaidEql
import Derived.Stop.Asserts
import Derived.RowKitTokens
import Derived.Deep.LoopGhost
namespace Go.Proofs.YtflbioiildndoaaDoor
open Go.RowKit Go.Extern.Stop Go.Stop Go.Extern

/-- which package-level variable holds the sentinel of a code -/
def sentG : Nat → Nat
  | 1 => 2
  | 2 => 0
  | 3 => 4
  | 4 => 3
  | 5 => 5
  | 6 => 6
  | 7 => 1
  | 8 => 7
  | _ => 8

/-- the sentinels of some codes lie in w, apart from each other -/
structure SentsOn (S : Nat → Prop) (w : World) (A : Nat → Addr) : Prop where
  cellOn : ∀ k, S k → w.cell? ⟨sentG k, 0, none⟩ = some (.iface 171 (.pointer (some (A k))))
  rowOn : ∀ k, S k → ∃ c t, w.heap[(A k).block]? = some (.cells c t (0, 0))
  injOn : ∀ j k, S j → S k → A j = A k → j = k
/-- a code is among them -/
class Has (S : Nat → Prop) (k : Nat) : Prop where
  has : S k
def Nine (k : Nat) : Prop := 1 ≤ k ∧ k ≤ 9
instance : Has Nine 1 := ⟨by unfold Nine; omega⟩
instance : Has Nine 2 := ⟨by unfold Nine; omega⟩
instance : Has Nine 3 := ⟨by unfold Nine; omega⟩
instance : Has Nine 4 := ⟨by unfold Nine; omega⟩
instance : Has Nine 5 := ⟨by unfold Nine; omega⟩
instance : Has Nine 6 := ⟨by unfold Nine; omega⟩
instance : Has Nine 7 := ⟨by unfold Nine; omega⟩
instance : Has Nine 8 := ⟨by unfold Nine; omega⟩
instance : Has Nine 9 := ⟨by unfold Nine; omega⟩
/-- the nine sentinels lie in w, apart from each other -/
abbrev Sents (w : World) (A : Nat → Addr) : Prop := SentsOn Nine w A
theorem SentsOn.cell {S : Nat → Prop} {w : World} {A : Nat → Addr} (h : SentsOn S w A) (k : Nat) [Has S k] (_ : 1 ≤ k) (_ : k ≤ 9) : w.cell? ⟨sentG k, 0, none⟩ = some (.iface 171 (.pointer (some (A k)))) := h.cellOn k Has.has
theorem SentsOn.row {w : World} {A : Nat → Addr} (h : SentsOn Nine w A) (k : Nat) (h1 : 1 ≤ k) (h2 : k ≤ 9) : ∃ c t, w.heap[(A k).block]? = some (.cells c t (0, 0)) := h.rowOn k ⟨h1, h2⟩
theorem SentsOn.inj {w : World} {A : Nat → Addr} (h : SentsOn Nine w A) (j k : Nat) (h1 : 1 ≤ j) (h2 : j ≤ 9) (h3 : 1 ≤ k) (h4 : k ≤ 9) (e : A j = A k) : j = k := h.injOn j k ⟨h1, h2⟩ ⟨h3, h4⟩ e

theorem heap_lt {w : World} {k : Nat} {o : Obj} (h : w.heap[k]? = some o) : k < w.heap.size := (Array.getElem?_eq_some_iff.1 h).1

theorem SentsOn.below {S : Nat → Prop} {w w' : World} {A : Nat → Addr} (h : SentsOn S w A) (hb : Below w.heap.size w w') : SentsOn S w' A where
  cellOn k h1 := by
    have := h.cellOn k h1
    rw [hb.cell (World.block_lt_of_cell? w _ this)]
    exact this
  rowOn k h1 := by
    obtain ⟨c, t, hc⟩ := h.rowOn k h1
    exact ⟨c, t, by rw [hb.block _ (heap_lt hc)]; exact hc⟩
  injOn := h.injOn

/-- v leads through faults at these pages, the outermost first, which lie in blocks from B on, to the sentinel of code k -/
def Chain (w : World) (A : Nat → Addr) (B : Nat) : List Int → Nat → Value → Prop
  | [], k, v => (1 ≤ k ∧ k ≤ 9) ∧ v = .iface 171 (.pointer (some (A k)))
  | p :: l, k, v => ∃ b op E, v = .iface 124 (.pointer (some ⟨b, 0, none⟩)) ∧ B ≤ b ∧ w.heap[b]? = some (.cells #[.string op, .int .i64 p, E] 126 (0, 0)) ∧ Chain w A B l k E

/-- an error of a code (0: none), through faults at these pages -/
def ErrIs (w : World) (A : Nat → Addr) (B : Nat) (l : List Int) (k : Nat) (v : Value) : Prop := (k = 0 ∧ l = [] ∧ v = .nilIface) ∨ (k ≠ 0 ∧ Chain w A B l k v)

theorem Chain.le {w : World} {A : Nat → Addr} {B : Nat} {l : List Int} {k : Nat} {v : Value} (h : Chain w A B l k v) : 1 ≤ k ∧ k ≤ 9 := by
  induction l generalizing v with
  | nil => exact h.1
  | cons p l ih => obtain ⟨_, _, E, _, _, _, h⟩ := h; exact ih h
theorem Chain.below {w w' : World} {A : Nat → Addr} {B : Nat} {l : List Int} {k : Nat} {v : Value} (h : Chain w A B l k v) (hb : Below w.heap.size w w') : Chain w' A B l k v := by
  induction l generalizing v with
  | nil => exact h
  | cons p l ih =>
    obtain ⟨b, op, E, rfl, hB, hc, h⟩ := h
    exact ⟨b, op, E, rfl, hB, by rw [hb.block _ (heap_lt hc)]; exact hc, ih h⟩
theorem ErrIs.below {w w' : World} {A : Nat → Addr} {B : Nat} {l : List Int} {k : Nat} {v : Value} (h : ErrIs w A B l k v) (hb : Below w.heap.size w w') : ErrIs w' A B l k v :=
  h.imp id fun ⟨h1, h2⟩ => ⟨h1, h2.below hb⟩
theorem ErrIs.nil (w : World) (A : Nat → Addr) (B : Nat) : ErrIs w A B [] 0 .nilIface := .inl ⟨rfl, rfl, rfl⟩
theorem ErrIs.le {w : World} {A : Nat → Addr} {B : Nat} {l : List Int} {k : Nat} {v : Value} (h : ErrIs w A B l k v) : k ≤ 9 := by
  rcases h with ⟨rfl, _⟩ | ⟨_, h⟩
  · omega
  · exact h.le.2
theorem Chain.iface {w : World} {A : Nat → Addr} {B : Nat} {l : List Int} {k : Nat} {v : Value} (h : Chain w A B l k v) : ∃ t x, v = .iface t x := by
  cases l with
  | nil => exact ⟨_, _, h.2⟩
  | cons p l => obtain ⟨b, op, E, rfl, _⟩ := h; exact ⟨_, _, rfl⟩
/-- an error that is not nil is no nil interface -/
theorem ErrIs.iface {w : World} {A : Nat → Addr} {B : Nat} {l : List Int} {k : Nat} {v : Value} (h : ErrIs w A B l k v) (hk : k ≠ 0) : ∃ t x, v = .iface t x := by
  rcases h with ⟨rfl, _⟩ | ⟨_, h⟩
  · exact absurd rfl hk
  · exact h.iface
theorem ErrIs.isNil {w : World} {A : Nat → Addr} {B : Nat} {l : List Int} {v : Value} (h : ErrIs w A B l 0 v) : v = .nilIface ∧ l = [] := by
  rcases h with ⟨_, h1, h2⟩ | ⟨h, _⟩
  · exact ⟨h2, h1⟩
  · exact absurd rfl h
/-- the page at which something went wrong -/
def pageOf : List Int → Int
  | [] => -1
  | p :: l => if 0 ≤ p then p else pageOf l

/-- an error whose faults lie in blocks from B on, behind writes to a block ahead of B -/
theorem Chain.grown {w w' : World} {A : Nat → Addr} {B : Nat} {l : List Int} {k : Nat} {v : Value} {row : Option Nat} (h : Chain w A B l k v) (hg : w.grownBy w' row) (hr : ∀ g, row = some g → g < B) : Chain w' A B l k v := by
  induction l generalizing v with
  | nil => exact h
  | cons p l ih =>
    obtain ⟨b, op, E, rfl, hB, hc, h⟩ := h
    exact ⟨b, op, E, rfl, hB, by rw [hg.block _ (heap_lt hc) (fun e => by have := hr b e.symm; omega)]; exact hc, ih h⟩
theorem ErrIs.grown {w w' : World} {A : Nat → Addr} {B : Nat} {l : List Int} {k : Nat} {v : Value} {row : Option Nat} (h : ErrIs w A B l k v) (hg : w.grownBy w' row) (hr : ∀ g, row = some g → g < B) : ErrIs w' A B l k v :=
  h.imp id fun ⟨h1, h2⟩ => ⟨h1, h2.grown hg hr⟩
theorem Chain.mono {w : World} {A : Nat → Addr} {B B' : Nat} {l : List Int} {k : Nat} {v : Value} (h : Chain w A B l k v) (hB : B' ≤ B) : Chain w A B' l k v := by
  induction l generalizing v with
  | nil => exact h
  | cons p l ih =>
    obtain ⟨b, op, E, rfl, h0, hc, h⟩ := h
    exact ⟨b, op, E, rfl, Nat.le_trans hB h0, hc, ih h⟩
theorem ErrIs.mono {w : World} {A : Nat → Addr} {B B' : Nat} {l : List Int} {k : Nat} {v : Value} (h : ErrIs w A B l k v) (hB : B' ≤ B) : ErrIs w A B' l k v :=
  h.imp id fun ⟨h1, h2⟩ => ⟨h1, h2.mono hB⟩
theorem sent_err {w : World} {A : Nat → Addr} {B : Nat} (k : Nat) (h1 : 1 ≤ k) (h2 : k ≤ 9) : ErrIs w A B [] k (.iface 171 (.pointer (some (A k)))) := .inr ⟨by omega, ⟨h1, h2⟩, rfl⟩
theorem fault_err {w : World} {A : Nat → Addr} {B : Nat} {l : List Int} {k : Nat} {E : Value} (op : ByteArray) (p : Int) (h : ErrIs w A B l k E) (hk : k ≠ 0) (hB : B ≤ w.heap.size) :
    ErrIs (w.alloc (.cells #[.string op, .int .i64 p, E] 126)) A B (p :: l) k (.iface 124 (.pointer (some ⟨w.heap.size, 0, none⟩))) := by
  rcases h with ⟨rfl, _⟩ | ⟨_, h⟩
  · exact absurd rfl hk
  · exact .inr ⟨hk, w.heap.size, op, E, rfl, hB, heap_alloc_new w _, h.below ((Below.refl _ _).alloc (Nat.le_refl _) _)⟩

/-- what fault.New and fault.Wrap leave -/
def IsFault (A : Nat → Addr) (B : Nat) (l : List Int) (k : Nat) (e : Ending) (w' : World) : Prop := ∃ v, e = .returned v ∧ ErrIs w' A B l k v

theorem faultNew_any (op : ByteArray) (k : Nat) (E : Value) (w : World) (A : Nat → Addr) (B : Nat) (h : ErrIs w A B [] k E) (hk : k ≠ 0) (hB : B ≤ w.heap.size) :
    Calls Tryd.prog 54 #[.string op, E] w fun e w' => IsFault A B [-1] k e w' ∧ Below w.heap.size w w' := by
  have H := Lib.hid (fault_err op (-1) h hk hB)
  obtain ⟨t, x, rfl⟩ := h.iface hk
  clear h
  go_enter Tryd.func54, Tryd.ntmps54
  go_wp2
  go_ret
  exact ⟨⟨_, rfl, H.out⟩, by go_grown⟩
theorem faultWrap_any (op : ByteArray) (l : List Int) (k : Nat) (E : Value) (w : World) (A : Nat → Addr) (B : Nat) (h : ErrIs w A B l k E) (hk : k ≠ 0) (hB : B ≤ w.heap.size) :
    Calls Tryd.prog 71 #[.string op, E] w fun e w' => IsFault A B (-1 :: l) k e w' ∧ Below w.heap.size w w' := by
  have H := Lib.hid (fault_err op (-1) h hk hB)
  obtain ⟨t, x, rfl⟩ := h.iface hk
  clear h
  go_enter Tryd.func71, Tryd.ntmps71
  go_wp2
  go_ret
  exact ⟨⟨_, rfl, H.out⟩, by go_grown⟩
theorem faultWrap_nil (op : ByteArray) (w : World) :
    Calls Tryd.prog 71 #[.string op, .nilIface] w fun e w' => e = .returned .nilIface ∧ w = w' := by
  go_enter Tryd.func71, Tryd.ntmps71
  go_wp2
  go_ret
  exact ⟨rfl, rfl⟩
theorem faultAt_any (op : ByteArray) (p : Int) (l : List Int) (k : Nat) (E : Value) (w : World) (A : Nat → Addr) (B : Nat) (h : ErrIs w A B l k E) (hk : k ≠ 0) (hB : B ≤ w.heap.size) :
    Calls Tryd.prog 67 #[.string op, .int .i64 p, E] w fun e w' => IsFault A B (max p (-1) :: l) k e w' ∧ Below w.heap.size w w' := by
  have H := Lib.hid (fault_err op (max p (-1)) h hk hB)
  obtain ⟨t, x, rfl⟩ := h.iface hk
  clear h
  by_cases hp : p < -1
  · rw [show max p (-1) = -1 by omega] at *
    go_enter Tryd.func67, Tryd.ntmps67
    go_wp2
    go_ret
    exact ⟨⟨_, rfl, H.out⟩, by go_grown⟩
  · rw [show max p (-1) = p by omega] at *
    go_enter Tryd.func67, Tryd.ntmps67
    go_wp2
    go_ret
    exact ⟨⟨_, rfl, H.out⟩, by go_grown⟩
end Go.Proofs.YtflbioiildndoaaDoor
