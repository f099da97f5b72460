/- numbers of package field and of its document, each call by one contract: what is told is one function of the input -/
import Derived.Test.YtflbioiildndoaaDoorField
import Derived.Test.YtflbioiildndoaaDoorFieldRef
namespace Go.Proofs.YtflbioiildndoaaDoor
open Go.RowKit

/-- bytes in new memory, and an error of a code -/
def BytesErr (w : World) (A : Nat → Addr) (l : List UInt8) (k : Nat) (e : Ending) (w' : World) : Prop :=
  ∃ a c ev lp, e = .returned (.tuple #[.slice a l.length c, ev]) ∧ Own w' w.heap.size (.slice a l.length c) l ∧ ErrIs w' A w.heap.size lp k ev
/-- bytes in new memory, and a code -/
def BytesCode (w : World) (l : List UInt8) (k : Nat) (e : Ending) (w' : World) : Prop :=
  ∃ a c, e = .returned (.tuple #[.slice a l.length c, .int .i64 (k : Int)]) ∧ Own w' w.heap.size (.slice a l.length c) l
def NumErr (w : World) (A : Nat → Addr) (n : Nat) (k : Nat) (e : Ending) (w' : World) : Prop :=
  ∃ ev lp, e = .returned (.tuple #[.int .u64 (n : Int), ev]) ∧ ErrIs w' A w.heap.size lp k ev

/-- Put, Take as the document says them: what is told, the code -/
def putS (l : List UInt8) (n : Nat) (x : Int) : List UInt8 × Nat := if Fld.right x = true ∧ n < 256 ^ x.toNat then (l ++ Fld.le x.toNat n, 0) else ([], 2)
def takeS (l : List UInt8) (at_ x : Int) : Nat × Nat :=
  if Fld.right x = false ∨ at_ < 0 ∨ (l.length : Int) < at_ then (0, 2) else if l.length < at_.toNat + x.toNat then (0, 1) else (Fld.unle ((l.drop at_.toNat).take x.toNat), 0)

theorem nil_own (w w' : World) : Own w' w.heap.size (.slice none ([] : List UInt8).length 0) [] := Own.nil w' _

theorem put_any (v : Value) (l : List UInt8) (n : Nat) (x : Int) (w : World) (A : Nat → Addr) {S : Nat → Prop} [Has S 1] [Has S 2] (hs : SentsOn S w A) (hb : BytesAt w v l) (hn : n < 18446744073709551616) (hlen : l.length ≤ 140737488351232) :
    Calls Tryd.prog 98 #[v, .int .u64 (n : Int), .int .i64 x] w fun e w' => BytesErr w A (putS l n x).1 (putS l n x).2 e w' ∧ Below w.heap.size w w' := by
  unfold putS
  split
  · rename_i h
    obtain ⟨m, rfl⟩ : ∃ m : Nat, x = (m : Int) := ⟨x.toNat, by rcases Fld.right_cases h.1 with h | h | h | h <;> omega⟩
    refine (put_ok v l n m w hb h.1 (by simpa using h.2) hn hlen).mono fun e w' ⟨hg, hb⟩ => ⟨?_, hb⟩
    obtain ⟨a, c, rfl, ho⟩ := hg.seen
    exact ⟨a, c, _, [], rfl, by simpa using ho, ErrIs.nil _ _ _⟩
  · rename_i h
    refine (put_bad v n x w A hs hn ?_).mono fun e w' ⟨⟨ev, he, hE⟩, hb⟩ => ⟨⟨none, 0, ev, _, he, nil_own w w', hE⟩, hb⟩
    cases hr : Fld.right x with
    | false => exact .inl rfl
    | true => exact .inr fun h2 => h ⟨hr, h2⟩
theorem refPut_any (v : Value) (l : List UInt8) (n : Nat) (x : Int) (w : World) (hb : BytesAt w v l) (hn : n < 18446744073709551616) (hlen : l.length ≤ 140737488351232) :
    Calls Tryd.prog 95 #[v, .int .u64 (n : Int), .int .i64 x] w fun e w' => BytesCode w (putS l n x).1 (putS l n x).2 e w' ∧ Below w.heap.size w w' := by
  unfold putS
  split
  · rename_i h
    obtain ⟨m, rfl⟩ : ∃ m : Nat, x = (m : Int) := ⟨x.toNat, by rcases Fld.right_cases h.1 with h | h | h | h <;> omega⟩
    refine (refPut_ok v l n m w hb h.1 (by simpa using h.2) hn hlen).mono fun e w' ⟨hg, hb⟩ => ⟨?_, hb⟩
    obtain ⟨a, c, rfl, ho⟩ := hg.seen
    exact ⟨a, c, rfl, by simpa using ho⟩
  · rename_i h
    refine (refPut_bad v n x w hn ?_).mono fun e w' ⟨he, hw⟩ => ⟨⟨none, 0, he, nil_own w w'⟩, Below.of_eq hw⟩
    cases hr : Fld.right x with
    | false => exact .inl rfl
    | true => exact .inr fun h2 => h ⟨hr, h2⟩
theorem take_any (v : Value) (l : List UInt8) (at_ x : Int) (w : World) (A : Nat → Addr) {S : Nat → Prop} [Has S 1] [Has S 2] (hs : SentsOn S w A) (hb : BytesAt w v l) :
    Calls Tryd.prog 108 #[v, .int .i64 at_, .int .i64 x] w fun e w' => NumErr w A (takeS l at_ x).1 (takeS l at_ x).2 e w' ∧ Below w.heap.size w w' := by
  unfold takeS
  split
  · rename_i h
    exact (take_range v l at_ x w A hs hb h).mono fun e w' ⟨⟨ev, he, hE⟩, hb⟩ => ⟨⟨ev, _, he, hE⟩, hb⟩
  · rename_i h
    have hr : Fld.right x = true := by cases hr : Fld.right x with | false => exact absurd (.inl hr) h | true => rfl
    obtain ⟨m, rfl⟩ : ∃ m : Nat, x = (m : Int) := ⟨x.toNat, by rcases Fld.right_cases hr with h | h | h | h <;> omega⟩
    obtain ⟨p, rfl⟩ : ∃ p : Nat, at_ = (p : Int) := ⟨at_.toNat, by have : ¬ at_ < 0 := fun h2 => h (.inr (.inl h2)); omega⟩
    have hp : p ≤ l.length := by have : ¬ (l.length : Int) < (p : Int) := fun h2 => h (.inr (.inr h2)); omega
    simp only [Int.toNat_natCast]
    split
    · exact (take_form v l p m w A hs hb hr hp (by assumption)).mono fun e w' ⟨⟨ev, he, hE⟩, hb⟩ => ⟨⟨ev, _, he, hE⟩, hb⟩
    · exact (take_ok v l p m w hb hr (by omega)).mono fun e w' ⟨he, hw⟩ => ⟨⟨_, [], he, ErrIs.nil _ _ _⟩, Below.of_eq hw⟩
end Go.Proofs.YtflbioiildndoaaDoor
