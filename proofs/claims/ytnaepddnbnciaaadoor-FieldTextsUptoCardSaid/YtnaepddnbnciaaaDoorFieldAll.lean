/- package field and its document, each call by one contract: what is told is one function of the input -/
import Derived.Test.YtnaepddnbnciaaaDoorFieldRefText
namespace Go.Proofs.YtnaepddnbnciaaaDoor
open Go.RowKit

/-- bytes in new memory, and an error of a code -/
def BytesErr (w : World) (A : Nat → Addr) (l : List UInt8) (k : Nat) (e : Ending) (w' : World) : Prop :=
  ∃ a c ev lp, e = .returned (.tuple #[.slice a l.length c, ev]) ∧ Own w' w.heap.size (.slice a l.length c) l ∧ ErrIs w' A w.heap.size lp k ev
/-- bytes in new memory, and a code -/
def BytesCode (w : World) (l : List UInt8) (k : Nat) (e : Ending) (w' : World) : Prop :=
  ∃ a c, e = .returned (.tuple #[.slice a l.length c, .int .i64 (k : Int)]) ∧ Own w' w.heap.size (.slice a l.length c) l
def NumErr (w : World) (A : Nat → Addr) (n : Nat) (k : Nat) (e : Ending) (w' : World) : Prop :=
  ∃ ev lp, e = .returned (.tuple #[.int .u64 (n : Int), ev]) ∧ ErrIs w' A w.heap.size lp k ev
def TextErr (w : World) (A : Nat → Addr) (s : List UInt8) (n : Nat) (k : Nat) (e : Ending) (w' : World) : Prop :=
  ∃ ev lp, e = .returned (.tuple #[.string ⟨s.toArray⟩, .int .i64 (n : Int), ev]) ∧ ErrIs w' A w.heap.size lp k ev
def TextCode (s : List UInt8) (n : Nat) (k : Nat) (e : Ending) : Prop :=
  e = .returned (.tuple #[.string ⟨s.toArray⟩, .int .i64 (n : Int), .int .i64 (k : Int)])

/-- Put, Take, PutText, TakeText as the document says them: what is told, the code -/
def putS (l : List UInt8) (n : Nat) (x : Int) : List UInt8 × Nat := if Fld.right x = true ∧ n < 256 ^ x.toNat then (l ++ Fld.le x.toNat n, 0) else ([], 2)
def takeS (l : List UInt8) (at_ x : Int) : Nat × Nat :=
  if Fld.right x = false ∨ at_ < 0 ∨ (l.length : Int) < at_ then (0, 2) else if l.length < at_.toNat + x.toNat then (0, 1) else (Fld.unle ((l.drop at_.toNat).take x.toNat), 0)
def putTextS (l : List UInt8) (s : ByteArray) : List UInt8 × Nat := if s.size ≤ 65535 then (l ++ (Fld.le 2 s.size ++ s.data.toList), 0) else ([], 8)
def takeTextS (l : List UInt8) (at_ : Int) : List UInt8 × Nat × Nat :=
  if (takeS l at_ 2).2 ≠ 0 then ([], 0, (takeS l at_ 2).2)
  else if l.length < at_.toNat + 2 + (takeS l at_ 2).1 then ([], 0, 1)
  else ((l.drop (at_.toNat + 2)).take (takeS l at_ 2).1, at_.toNat + 2 + (takeS l at_ 2).1, 0)

theorem nil_own (w w' : World) : Own w' w.heap.size (.slice none ([] : List UInt8).length 0) [] := Own.nil w' _

theorem put_any (v : Value) (l : List UInt8) (n : Nat) (x : Int) (w : World) (A : Nat → Addr) (hs : Sents w A) (hb : BytesAt w v l) (hn : n < 18446744073709551616) (hlen : l.length ≤ 140737488351232) :
    Calls Tryd.prog 12 #[v, .int .u64 (n : Int), .int .i64 x] w fun e w' => BytesErr w A (putS l n x).1 (putS l n x).2 e w' ∧ Below w.heap.size w w' := by
  unfold putS
  split
  · rename_i h
    obtain ⟨m, rfl⟩ : ∃ m : Nat, x = (m : Int) := ⟨x.toNat, by rcases Fld.right_cases h.1 with h | h | h | h <;> omega⟩
    refine (put_ok v l n m w hb h.1 (by simpa using h.2) hn hlen).mono fun e w' ⟨hg, hb⟩ => ⟨?_, hb⟩
    obtain ⟨a, c, rfl, ho⟩ := hg.seen
    exact ⟨a, c, _, [], rfl, by simpa using ho, ErrIs.nil _ _ _⟩
  · rename_i h
    refine (put_bad v n x w A hs hn ?_).mono fun e w' ⟨⟨ev, he, hE⟩, hb⟩ => ⟨⟨none, 0, ev, _, he, nil_own w w', hE⟩, hb⟩
    cases hr : Fld.right x with
    | false => exact .inl rfl
    | true => exact .inr fun h2 => h ⟨hr, h2⟩
theorem refPut_any (v : Value) (l : List UInt8) (n : Nat) (x : Int) (w : World) (hb : BytesAt w v l) (hn : n < 18446744073709551616) (hlen : l.length ≤ 140737488351232) :
    Calls Tryd.prog 16 #[v, .int .u64 (n : Int), .int .i64 x] w fun e w' => BytesCode w (putS l n x).1 (putS l n x).2 e w' ∧ Below w.heap.size w w' := by
  unfold putS
  split
  · rename_i h
    obtain ⟨m, rfl⟩ : ∃ m : Nat, x = (m : Int) := ⟨x.toNat, by rcases Fld.right_cases h.1 with h | h | h | h <;> omega⟩
    refine (refPut_ok v l n m w hb h.1 (by simpa using h.2) hn hlen).mono fun e w' ⟨hg, hb⟩ => ⟨?_, hb⟩
    obtain ⟨a, c, rfl, ho⟩ := hg.seen
    exact ⟨a, c, rfl, by simpa using ho⟩
  · rename_i h
    refine (refPut_bad v n x w hn ?_).mono fun e w' ⟨he, hw⟩ => ⟨⟨none, 0, he, nil_own w w'⟩, Below.of_eq hw⟩
    cases hr : Fld.right x with
    | false => exact .inl rfl
    | true => exact .inr fun h2 => h ⟨hr, h2⟩
theorem take_any (v : Value) (l : List UInt8) (at_ x : Int) (w : World) (A : Nat → Addr) (hs : Sents w A) (hb : BytesAt w v l) :
    Calls Tryd.prog 14 #[v, .int .i64 at_, .int .i64 x] w fun e w' => NumErr w A (takeS l at_ x).1 (takeS l at_ x).2 e w' ∧ Below w.heap.size w w' := by
  unfold takeS
  split
  · rename_i h
    exact (take_range v l at_ x w A hs hb h).mono fun e w' ⟨⟨ev, he, hE⟩, hb⟩ => ⟨⟨ev, _, he, hE⟩, hb⟩
  · rename_i h
    have hr : Fld.right x = true := by cases hr : Fld.right x with | false => exact absurd (.inl hr) h | true => rfl
    obtain ⟨m, rfl⟩ : ∃ m : Nat, x = (m : Int) := ⟨x.toNat, by rcases Fld.right_cases hr with h | h | h | h <;> omega⟩
    obtain ⟨p, rfl⟩ : ∃ p : Nat, at_ = (p : Int) := ⟨at_.toNat, by have : ¬ at_ < 0 := fun h2 => h (.inr (.inl h2)); omega⟩
    have hp : p ≤ l.length := by have : ¬ (l.length : Int) < (p : Int) := fun h2 => h (.inr (.inr h2)); omega
    simp only [Int.toNat_natCast]
    split
    · exact (take_form v l p m w A hs hb hr hp (by assumption)).mono fun e w' ⟨⟨ev, he, hE⟩, hb⟩ => ⟨⟨ev, _, he, hE⟩, hb⟩
    · exact (take_ok v l p m w hb hr (by omega)).mono fun e w' ⟨he, hw⟩ => ⟨⟨_, [], he, ErrIs.nil _ _ _⟩, Below.of_eq hw⟩
theorem refTake_any (v : Value) (l : List UInt8) (at_ x : Int) (w : World) (hb : BytesAt w v l) :
    Calls Tryd.prog 19 #[v, .int .i64 at_, .int .i64 x] w fun e w' => Gives (.int .u64 ((takeS l at_ x).1 : Int)) (.int .i64 ((takeS l at_ x).2 : Int)) e ∧ w = w' := by
  unfold takeS
  split
  · rename_i h
    exact refTake_range v l at_ x w hb h
  · rename_i h
    have hr : Fld.right x = true := by cases hr : Fld.right x with | false => exact absurd (.inl hr) h | true => rfl
    obtain ⟨m, rfl⟩ : ∃ m : Nat, x = (m : Int) := ⟨x.toNat, by rcases Fld.right_cases hr with h | h | h | h <;> omega⟩
    obtain ⟨p, rfl⟩ : ∃ p : Nat, at_ = (p : Int) := ⟨at_.toNat, by have : ¬ at_ < 0 := fun h2 => h (.inr (.inl h2)); omega⟩
    have hp : p ≤ l.length := by have : ¬ (l.length : Int) < (p : Int) := fun h2 => h (.inr (.inr h2)); omega
    simp only [Int.toNat_natCast]
    split
    · exact refTake_form v l p m w hb hr hp (by assumption)
    · exact refTake_ok v l p m w hb hr (by omega)
theorem putText_any (v : Value) (l : List UInt8) (s : ByteArray) (w : World) (A : Nat → Addr) (hs : Sents w A) (hb : BytesAt w v l) (hm : s.size ≤ 9223372036854775807) (hlen : l.length ≤ 140737488200000) :
    Calls Tryd.prog 13 #[v, .string s] w fun e w' => BytesErr w A (putTextS l s).1 (putTextS l s).2 e w' ∧ Below w.heap.size w w' := by
  unfold putTextS
  split
  · refine (putText_ok v l s w hb (by assumption) hlen).mono fun e w' ⟨hg, hb⟩ => ⟨?_, hb⟩
    obtain ⟨a, c, rfl, ho⟩ := hg.seen
    exact ⟨a, c, _, [], rfl, ho, ErrIs.nil _ _ _⟩
  · exact (putText_long v s w A hs (by omega) hm).mono fun e w' ⟨⟨ev, he, hE⟩, hb⟩ => ⟨⟨none, 0, ev, _, he, nil_own w w', hE⟩, hb⟩
theorem refPutText_any (v : Value) (l : List UInt8) (s : ByteArray) (w : World) (hb : BytesAt w v l) (hm : s.size ≤ 9223372036854775807) (hlen : l.length ≤ 140737488200000) :
    Calls Tryd.prog 20 #[v, .string s] w fun e w' => BytesCode w (putTextS l s).1 (putTextS l s).2 e w' ∧ Below w.heap.size w w' := by
  unfold putTextS
  split
  · refine (refPutText_ok v l s w hb (by assumption) hlen).mono fun e w' ⟨hg, hb⟩ => ⟨?_, hb⟩
    obtain ⟨a, c, rfl, ho⟩ := hg.seen
    exact ⟨a, c, rfl, ho⟩
  · exact (refPutText_long v s w (by omega) hm).mono fun e w' ⟨he, hw⟩ => ⟨⟨none, 0, he, nil_own w w'⟩, Below.of_eq hw⟩

theorem takeS_ok {l : List UInt8} {at_ : Int} (h : (takeS l at_ 2).2 = 0) : ∃ p : Nat, at_ = (p : Int) ∧ p + 2 ≤ l.length ∧ (takeS l at_ 2).1 = Fld.unle ((l.drop p).take 2) := by
  unfold takeS at h ⊢
  split at h
  · cases h
  · rename_i h1
    rw [if_neg h1]
    obtain ⟨p, rfl⟩ : ∃ p : Nat, at_ = (p : Int) := ⟨at_.toNat, by have : ¬ at_ < 0 := fun h2 => h1 (.inr (.inl h2)); omega⟩
    split at h
    · cases h
    · rename_i h2
      rw [if_neg h2]
      exact ⟨p, rfl, by simp at h2; omega, by simp⟩
theorem takeText_any (v : Value) (l : List UInt8) (at_ : Int) (w : World) (A : Nat → Addr) (hs : Sents w A) (hb : BytesAt w v l) :
    Calls Tryd.prog 15 #[v, .int .i64 at_] w fun e w' => TextErr w A (takeTextS l at_).1 (takeTextS l at_).2.1 (takeTextS l at_).2.2 e w' ∧ Below w.heap.size w w' := by
  unfold takeTextS
  split
  · rename_i h
    have hT : Calls Tryd.prog 14 #[v, .int .i64 at_, .int .i64 2] w fun e w' => Fails2 (.int .u64 0) A w.heap.size [-1] (takeS l at_ 2).2 e w' ∧ Below w.heap.size w w' := by
      unfold takeS at h ⊢
      split
      · rename_i h1
        exact take_range v l at_ 2 w A hs hb h1
      · rename_i h1
        rw [if_neg h1] at h
        obtain ⟨p, rfl⟩ : ∃ p : Nat, at_ = (p : Int) := ⟨at_.toNat, by have : ¬ at_ < 0 := fun h2 => h1 (.inr (.inl h2)); omega⟩
        split
        · rename_i h2
          refine take_form v l p 2 w A hs hb rfl ?_ (by simpa using h2)
          have : ¬ (l.length : Int) < (p : Int) := fun h3 => h1 (.inr (.inr h3))
          omega
        · rename_i h2
          rw [if_neg h2] at h
          exact absurd rfl h
    exact (takeText_bad v at_ _ h w A hT).mono fun e w' ⟨⟨ev, he, hE⟩, hb⟩ => ⟨⟨ev, _, he, hE⟩, hb⟩
  · rename_i h
    obtain ⟨p, rfl, hp, hn⟩ := takeS_ok (by simpa using h)
    rw [hn]
    simp only [Int.toNat_natCast]
    split
    · rename_i h2
      exact (takeText_short v l p w A hs hb hp h2).mono fun e w' ⟨⟨ev, he, hE⟩, hb⟩ => ⟨⟨ev, _, he, hE⟩, hb⟩
    · exact (takeText_ok v l p _ w hb rfl (by omega)).mono fun e w' ⟨he, hw⟩ => ⟨⟨_, [], he, ErrIs.nil _ _ _⟩, Below.of_eq hw⟩
theorem refTakeText_any (v : Value) (l : List UInt8) (at_ : Int) (w : World) (hb : BytesAt w v l) :
    Calls Tryd.prog 21 #[v, .int .i64 at_] w fun e w' => TextCode (takeTextS l at_).1 (takeTextS l at_).2.1 (takeTextS l at_).2.2 e ∧ w = w' := by
  unfold takeTextS
  split
  · rename_i h
    refine refTakeText_bad v at_ _ (by simpa using h) w ?_
    have h0 : (takeS l at_ 2).1 = 0 := by
      unfold takeS at h ⊢
      split
      · rfl
      · rename_i h1
        rw [if_neg h1] at h
        split
        · rfl
        · rename_i h2
          rw [if_neg h2] at h
          exact absurd rfl h
    have := refTake_any v l at_ 2 w hb
    rw [h0] at this
    exact this
  · rename_i h
    obtain ⟨p, rfl, hp, hn⟩ := takeS_ok (by simpa using h)
    rw [hn]
    simp only [Int.toNat_natCast]
    split
    · rename_i h2
      exact refTakeText_short v l p w hb hp h2
    · exact refTakeText_ok v l p _ w hb rfl (by omega)
end Go.Proofs.YtnaepddnbnciaaaDoor
