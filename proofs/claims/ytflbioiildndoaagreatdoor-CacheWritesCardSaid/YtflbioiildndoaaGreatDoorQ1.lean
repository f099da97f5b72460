/- merged: Base, Sent, Laid, Open -/
import Derived.Test.YtflbioiildndoaaGreatDoorProg
import Derived.WalkKit
import Derived.WalkSpells
import Derived.Lib.Hide
import Derived.WalkLawsBesides
import Derived.Deep.QuietTactic
import Derived.BigQuiet
import Derived.Handy
import Derived.LaidEql
import Derived.Stop.Asserts
import Derived.RowKitTokens
import Derived.Deep.LoopGhost
import Derived.Test.YtflbioiildndoaaGreatDoorRows
import Derived.LaidLaws
import Derived.ProofKit
import Derived.OpenShut
import Derived.ShutString
import Derived.ChangeOld
import Derived.JoinedCond
import Derived.SizedLaws
import Derived.Deep.DeepHandedRow
/- small laws that all walks share: machine numbers as bit vectors; what a slice of bytes reads as -/
namespace Go.Proofs.YtflbioiildndoaaGreatDoor
open Go.RowKit

theorem wrap_u32_nat (n : Nat) (h : n < 4294967296) : IntKind.u32.wrap (n : Int) = (n : Int) := by
  rw [IntKind.wrap_u32]; omega
theorem wrap_u8_nat (n : Nat) (h : n < 256) : IntKind.u8.wrap (n : Int) = (n : Int) := by
  rw [IntKind.wrap_u8]; omega
theorem bits_xor_u32 (a b : BitVec 32) : bits .xor .u32 (a.toNat : Int) (b.toNat : Int) = ((a ^^^ b).toNat : Int) := by
  show IntKind.u32.wrap ((BitVec.ofInt 32 (a.toNat : Int) ^^^ BitVec.ofInt 32 (b.toNat : Int)).toNat : Int) = _
  rw [BitVec.ofInt_natCast, BitVec.ofInt_natCast, BitVec.ofNat_toNat, BitVec.ofNat_toNat, BitVec.setWidth_eq, BitVec.setWidth_eq]
  exact wrap_u32_nat _ (a ^^^ b).isLt
theorem bits_and_u32 (a b : BitVec 32) : bits .and .u32 (a.toNat : Int) (b.toNat : Int) = ((a &&& b).toNat : Int) := by
  show IntKind.u32.wrap ((BitVec.ofInt 32 (a.toNat : Int) &&& BitVec.ofInt 32 (b.toNat : Int)).toNat : Int) = _
  rw [BitVec.ofInt_natCast, BitVec.ofInt_natCast, BitVec.ofNat_toNat, BitVec.ofNat_toNat, BitVec.setWidth_eq, BitVec.setWidth_eq]
  exact wrap_u32_nat _ (a &&& b).isLt
theorem bits_xor_u8 (a b : UInt8) : bits .xor .u8 (a.toNat : Int) (b.toNat : Int) = ((a ^^^ b).toNat : Int) := by
  show IntKind.u8.wrap ((BitVec.ofInt 8 (a.toBitVec.toNat : Int) ^^^ BitVec.ofInt 8 (b.toBitVec.toNat : Int)).toNat : Int) = _
  rw [BitVec.ofInt_natCast, BitVec.ofInt_natCast, BitVec.ofNat_toNat, BitVec.ofNat_toNat, BitVec.setWidth_eq, BitVec.setWidth_eq]
  exact wrap_u8_nat _ (a ^^^ b).toNat_lt
theorem bits_or_u8 (a b : UInt8) : bits .or .u8 (a.toNat : Int) (b.toNat : Int) = ((a ||| b).toNat : Int) := by
  show IntKind.u8.wrap ((BitVec.ofInt 8 (a.toBitVec.toNat : Int) ||| BitVec.ofInt 8 (b.toBitVec.toNat : Int)).toNat : Int) = _
  rw [BitVec.ofInt_natCast, BitVec.ofInt_natCast, BitVec.ofNat_toNat, BitVec.ofNat_toNat, BitVec.setWidth_eq, BitVec.setWidth_eq]
  exact wrap_u8_nat _ (a ||| b).toNat_lt
/-- a number of 32 bits is a bit vector's -/
theorem u32_bv {n : Int} (h : (Lit.int .u32 n).wf = true) : ∃ v : BitVec 32, n = (v.toNat : Int) := by
  have hx : 0 ≤ n ∧ n ≤ 4294967295 := by simpa [Lit.wf, IntKind.min, IntKind.max, IntKind.signed, IntKind.bits] using h
  exact ⟨BitVec.ofNat 32 n.toNat, by rw [BitVec.toNat_ofNat]; omega⟩
theorem u64_nat {n : Int} (h : (Lit.int .u64 n).wf = true) : ∃ m : Nat, n = (m : Int) ∧ m < 18446744073709551616 := by
  have hx : 0 ≤ n ∧ n ≤ 18446744073709551615 := by simpa [Lit.wf, IntKind.min, IntKind.max, IntKind.signed, IntKind.bits] using h
  exact ⟨n.toNat, by omega, by omega⟩
theorem i64_bd {n : Int} (h : (Lit.int .i64 n).wf = true) : -9223372036854775808 ≤ n ∧ n ≤ 9223372036854775807 := by simpa [Lit.wf, IntKind.min, IntKind.max, IntKind.signed, IntKind.bits] using h
theorem u8_byte {n : Int} (h : (Lit.int .u8 n).wf = true) : ∃ v : UInt8, n = (v.toNat : Int) := by
  have hx : 0 ≤ n ∧ n ≤ 255 := by simpa [Lit.wf, IntKind.min, IntKind.max, IntKind.signed, IntKind.bits] using h
  exact ⟨UInt8.ofNat n.toNat, by rw [UInt8.toNat_ofNat']; omega⟩

theorem ret_bool {a b : Bool} (h : a = b) : Ending.returned (.bool a) = .returned (.bool b) := by rw [h]

/-! ### what a slice of bytes reads as -/
/-- v is a slice of bytes that reads as l in w -/
def BytesAt (w : World) (v : Value) (l : List UInt8) : Prop :=
  ∃ a c, v = .slice a l.length c ∧ l.length ≤ c ∧ c ≤ maxLen ∧
    (l = [] ∨ ∃ b o, a = some ⟨b, o, none⟩ ∧ ∀ i x, l[i]? = some x → w.cell? ⟨b, o + i, none⟩ = some (.int .u8 (x.toNat : Int)))

theorem BytesAt.nil (w : World) : BytesAt w (.slice none 0 0) [] := ⟨none, 0, rfl, Nat.le_refl _, Nat.zero_le _, .inl rfl⟩

/-- what reads as bytes does so where the blocks below B are as they were -/
theorem BytesAt.below {w w' : World} {v : Value} {l : List UInt8} (h : BytesAt w v l) (hb : Below w.heap.size w w') : BytesAt w' v l := by
  obtain ⟨a, c, rfl, h1, h2, h3⟩ := h
  refine ⟨a, c, rfl, h1, h2, h3.imp id ?_⟩
  rintro ⟨b, o, rfl, hc⟩
  refine ⟨b, o, rfl, fun i x hx => ?_⟩
  have := hc i x hx
  rw [hb.cell (World.block_lt_of_cell? w _ this)]
  exact this

theorem BytesAt.take {w : World} {a : Option Addr} {n c k : Nat} {l : List UInt8} (h : BytesAt w (.slice a n c) l) (hk : k ≤ l.length) : BytesAt w (.slice a k c) (l.take k) := by
  obtain ⟨a', c', e, h1, h2, h3⟩ := h
  simp only [Value.slice.injEq] at e
  obtain ⟨rfl, rfl, rfl⟩ := e
  refine ⟨a, c, by rw [List.length_take, Nat.min_eq_left hk], by rw [List.length_take]; omega, h2, ?_⟩
  rcases h3 with rfl | ⟨b, o, rfl, hc⟩
  · exact .inl (by simp)
  · refine .inr ⟨b, o, rfl, fun i x hx => hc i x ?_⟩
    rw [List.getElem?_take] at hx
    split at hx
    · exact hx
    · cases hx

theorem getElem?_some_of_lt {α : Type} {l : List α} {k : Nat} (h : k < l.length) : ∃ x, l[k]? = some x := ⟨l[k], List.getElem?_eq_getElem h⟩


/-! ### a region that draws its order, whose operations read and whose callees write to nothing that was there -/
/-- a world behind w in which all that was in w is as it was -/
structure Later (w : World) where
  world : World
  below : Below w.heap.size w world

instance Later.inhab (w : World) : Nonempty (Later w) := ⟨⟨w, Below.refl _ _⟩⟩
theorem Later.cell {w : World} {a : Addr} {v : Value} (h : w.cell? a = some v) (x : Later w) : x.world.cell? a = some v := by
  rw [x.below.cell (World.block_lt_of_cell? w a h)]; exact h
theorem Later.bytes {w : World} {v : Value} {l : List UInt8} (h : BytesAt w v l) (x : Later w) : BytesAt x.world v l := h.below x.below

theorem wp_region_later {P : Program} {id : Nat} {Q : Exit → Act → World → Prop} {a : Act} {w : World} {l : List Oper} (hm : P.follows .mixedOrders = true) (hB : Region.lexB .any l.toArray = true)
    (h : wpQuiet P l.toArray (fun w' => ∃ x : Later w, w' = x.world) (fun a' => ∀ x : Later w, Q .normal a' x.world) l a) : (Code.region id l.toArray true).wp P Q a w := by
  refine wp_region_quiet (C := fun w' => ∃ x : Later w, w' = x.world) hm hB ⟨⟨w.drew, (Below.refl _ _).drew⟩, rfl⟩ ?_
  have e : (fun a' => ∀ w', (∃ x : Later w, w' = x.world) → Q .normal a' w') = (fun a' => ∀ x : Later w, Q .normal a' x.world) := by
    funext a'
    exact propext ⟨fun h x => h _ ⟨x, rfl⟩, fun h w' ⟨x, hx⟩ => hx ▸ h x⟩
  rw [e]
  simpa using h

theorem later_of_below {w : World} (x : Later w) {w' : World} (h : Below x.world.heap.size x.world w') : ∃ y : Later w, w' = y.world :=
  ⟨⟨w', x.below.trans (h.mono x.below.size)⟩, rfl⟩
theorem Calls.later_of {P : Program} {f : FuncId} {args : Array Value} {w : World} {x : Later w} {v : Value}
    (h : Calls P f args x.world fun e w' => e = .returned v ∧ Below x.world.heap.size x.world w') : Calls P f args x.world fun e w'' => e = .returned v ∧ ∃ y : Later w, w'' = y.world :=
  h.mono fun _ _ ⟨he, hb⟩ => ⟨he, later_of_below x hb⟩
theorem Calls.later_same {P : Program} {f : FuncId} {args : Array Value} {w : World} {x : Later w} {v : Value}
    (h : Calls P f args x.world fun e w' => e = .returned v ∧ x.world = w') : Calls P f args x.world fun e w'' => e = .returned v ∧ ∃ y : Later w, w'' = y.world :=
  h.mono fun _ _ ⟨he, hb⟩ => ⟨he, x, hb.symm⟩
/-- one call behind another -/
theorem below_step {w a b : World} (h : Below w.heap.size w a) (k : Below a.heap.size a b) : Below w.heap.size w b := h.trans (k.mono h.size)
theorem Below.of_eq {w w' : World} (h : w = w') : Below w.heap.size w w' := h ▸ Below.refl _ _
end Go.Proofs.YtflbioiildndoaaGreatDoor

/- the sentinels of package api, errors as chains of faults over them, and the walks of fault.New, fault.Wrap -/
namespace Go.Proofs.YtflbioiildndoaaGreatDoor
open Go.RowKit Go.Extern.Stop Go.Stop Go.Extern

/-- which package-level variable holds the sentinel of a code -/
def sentG : Nat → Nat
  | 1 => 2
  | 2 => 1
  | 3 => 3
  | 4 => 4
  | 5 => 5
  | 6 => 6
  | 7 => 0
  | 8 => 7
  | _ => 8

/-- the sentinels of some codes lie in w, apart from each other -/
structure SentsOn (S : Nat → Prop) (w : World) (A : Nat → Addr) : Prop where
  cellOn : ∀ k, S k → w.cell? ⟨sentG k, 0, none⟩ = some (.iface 176 (.pointer (some (A k))))
  rowOn : ∀ k, S k → ∃ c t, w.heap[(A k).block]? = some (.cells c t (0, 0))
  injOn : ∀ j k, S j → S k → A j = A k → j = k
/-- a code is among them -/
class Has (S : Nat → Prop) (k : Nat) : Prop where
  has : S k
def Nine (k : Nat) : Prop := 1 ≤ k ∧ k ≤ 9
instance : Has Nine 1 := ⟨by unfold Nine; omega⟩
instance : Has Nine 2 := ⟨by unfold Nine; omega⟩
instance : Has Nine 3 := ⟨by unfold Nine; omega⟩
instance : Has Nine 4 := ⟨by unfold Nine; omega⟩
instance : Has Nine 5 := ⟨by unfold Nine; omega⟩
instance : Has Nine 6 := ⟨by unfold Nine; omega⟩
instance : Has Nine 7 := ⟨by unfold Nine; omega⟩
instance : Has Nine 8 := ⟨by unfold Nine; omega⟩
instance : Has Nine 9 := ⟨by unfold Nine; omega⟩
/-- the nine sentinels lie in w, apart from each other -/
abbrev Sents (w : World) (A : Nat → Addr) : Prop := SentsOn Nine w A
theorem SentsOn.cell {S : Nat → Prop} {w : World} {A : Nat → Addr} (h : SentsOn S w A) (k : Nat) [Has S k] (_ : 1 ≤ k) (_ : k ≤ 9) : w.cell? ⟨sentG k, 0, none⟩ = some (.iface 176 (.pointer (some (A k)))) := h.cellOn k Has.has
theorem SentsOn.row {w : World} {A : Nat → Addr} (h : SentsOn Nine w A) (k : Nat) (h1 : 1 ≤ k) (h2 : k ≤ 9) : ∃ c t, w.heap[(A k).block]? = some (.cells c t (0, 0)) := h.rowOn k ⟨h1, h2⟩
theorem SentsOn.inj {w : World} {A : Nat → Addr} (h : SentsOn Nine w A) (j k : Nat) (h1 : 1 ≤ j) (h2 : j ≤ 9) (h3 : 1 ≤ k) (h4 : k ≤ 9) (e : A j = A k) : j = k := h.injOn j k ⟨h1, h2⟩ ⟨h3, h4⟩ e

theorem heap_lt {w : World} {k : Nat} {o : Obj} (h : w.heap[k]? = some o) : k < w.heap.size := (Array.getElem?_eq_some_iff.1 h).1

theorem SentsOn.below {S : Nat → Prop} {w w' : World} {A : Nat → Addr} (h : SentsOn S w A) (hb : Below w.heap.size w w') : SentsOn S w' A where
  cellOn k h1 := by
    have := h.cellOn k h1
    rw [hb.cell (World.block_lt_of_cell? w _ this)]
    exact this
  rowOn k h1 := by
    obtain ⟨c, t, hc⟩ := h.rowOn k h1
    exact ⟨c, t, by rw [hb.block _ (heap_lt hc)]; exact hc⟩
  injOn := h.injOn

/-- v leads through faults at these pages, the outermost first, which lie in blocks from B on, to the sentinel of code k -/
def Chain (w : World) (A : Nat → Addr) (B : Nat) : List Int → Nat → Value → Prop
  | [], k, v => (1 ≤ k ∧ k ≤ 9) ∧ v = .iface 176 (.pointer (some (A k)))
  | p :: l, k, v => ∃ b op E, v = .iface 133 (.pointer (some ⟨b, 0, none⟩)) ∧ B ≤ b ∧ w.heap[b]? = some (.cells #[.string op, .int .i64 p, E] 135 (0, 0)) ∧ Chain w A B l k E

/-- an error of a code (0: none), through faults at these pages -/
def ErrIs (w : World) (A : Nat → Addr) (B : Nat) (l : List Int) (k : Nat) (v : Value) : Prop := (k = 0 ∧ l = [] ∧ v = .nilIface) ∨ (k ≠ 0 ∧ Chain w A B l k v)

theorem Chain.le {w : World} {A : Nat → Addr} {B : Nat} {l : List Int} {k : Nat} {v : Value} (h : Chain w A B l k v) : 1 ≤ k ∧ k ≤ 9 := by
  induction l generalizing v with
  | nil => exact h.1
  | cons p l ih => obtain ⟨_, _, E, _, _, _, h⟩ := h; exact ih h
theorem Chain.below {w w' : World} {A : Nat → Addr} {B : Nat} {l : List Int} {k : Nat} {v : Value} (h : Chain w A B l k v) (hb : Below w.heap.size w w') : Chain w' A B l k v := by
  induction l generalizing v with
  | nil => exact h
  | cons p l ih =>
    obtain ⟨b, op, E, rfl, hB, hc, h⟩ := h
    exact ⟨b, op, E, rfl, hB, by rw [hb.block _ (heap_lt hc)]; exact hc, ih h⟩
theorem ErrIs.below {w w' : World} {A : Nat → Addr} {B : Nat} {l : List Int} {k : Nat} {v : Value} (h : ErrIs w A B l k v) (hb : Below w.heap.size w w') : ErrIs w' A B l k v :=
  h.imp id fun ⟨h1, h2⟩ => ⟨h1, h2.below hb⟩
theorem ErrIs.nil (w : World) (A : Nat → Addr) (B : Nat) : ErrIs w A B [] 0 .nilIface := .inl ⟨rfl, rfl, rfl⟩
theorem ErrIs.le {w : World} {A : Nat → Addr} {B : Nat} {l : List Int} {k : Nat} {v : Value} (h : ErrIs w A B l k v) : k ≤ 9 := by
  rcases h with ⟨rfl, _⟩ | ⟨_, h⟩
  · omega
  · exact h.le.2
theorem Chain.iface {w : World} {A : Nat → Addr} {B : Nat} {l : List Int} {k : Nat} {v : Value} (h : Chain w A B l k v) : ∃ t x, v = .iface t x := by
  cases l with
  | nil => exact ⟨_, _, h.2⟩
  | cons p l => obtain ⟨b, op, E, rfl, _⟩ := h; exact ⟨_, _, rfl⟩
/-- an error that is not nil is no nil interface -/
theorem ErrIs.iface {w : World} {A : Nat → Addr} {B : Nat} {l : List Int} {k : Nat} {v : Value} (h : ErrIs w A B l k v) (hk : k ≠ 0) : ∃ t x, v = .iface t x := by
  rcases h with ⟨rfl, _⟩ | ⟨_, h⟩
  · exact absurd rfl hk
  · exact h.iface
theorem ErrIs.isNil {w : World} {A : Nat → Addr} {B : Nat} {l : List Int} {v : Value} (h : ErrIs w A B l 0 v) : v = .nilIface ∧ l = [] := by
  rcases h with ⟨_, h1, h2⟩ | ⟨h, _⟩
  · exact ⟨h2, h1⟩
  · exact absurd rfl h
/-- the page at which something went wrong -/
def pageOf : List Int → Int
  | [] => -1
  | p :: l => if 0 ≤ p then p else pageOf l

/-- an error whose faults lie in blocks from B on, behind writes to a block ahead of B -/
theorem Chain.grown {w w' : World} {A : Nat → Addr} {B : Nat} {l : List Int} {k : Nat} {v : Value} {row : Option Nat} (h : Chain w A B l k v) (hg : w.grownBy w' row) (hr : ∀ g, row = some g → g < B) : Chain w' A B l k v := by
  induction l generalizing v with
  | nil => exact h
  | cons p l ih =>
    obtain ⟨b, op, E, rfl, hB, hc, h⟩ := h
    exact ⟨b, op, E, rfl, hB, by rw [hg.block _ (heap_lt hc) (fun e => by have := hr b e.symm; omega)]; exact hc, ih h⟩
theorem ErrIs.grown {w w' : World} {A : Nat → Addr} {B : Nat} {l : List Int} {k : Nat} {v : Value} {row : Option Nat} (h : ErrIs w A B l k v) (hg : w.grownBy w' row) (hr : ∀ g, row = some g → g < B) : ErrIs w' A B l k v :=
  h.imp id fun ⟨h1, h2⟩ => ⟨h1, h2.grown hg hr⟩
theorem Chain.mono {w : World} {A : Nat → Addr} {B B' : Nat} {l : List Int} {k : Nat} {v : Value} (h : Chain w A B l k v) (hB : B' ≤ B) : Chain w A B' l k v := by
  induction l generalizing v with
  | nil => exact h
  | cons p l ih =>
    obtain ⟨b, op, E, rfl, h0, hc, h⟩ := h
    exact ⟨b, op, E, rfl, Nat.le_trans hB h0, hc, ih h⟩
theorem ErrIs.mono {w : World} {A : Nat → Addr} {B B' : Nat} {l : List Int} {k : Nat} {v : Value} (h : ErrIs w A B l k v) (hB : B' ≤ B) : ErrIs w A B' l k v :=
  h.imp id fun ⟨h1, h2⟩ => ⟨h1, h2.mono hB⟩
theorem sent_err {w : World} {A : Nat → Addr} {B : Nat} (k : Nat) (h1 : 1 ≤ k) (h2 : k ≤ 9) : ErrIs w A B [] k (.iface 176 (.pointer (some (A k)))) := .inr ⟨by omega, ⟨h1, h2⟩, rfl⟩
theorem fault_err {w : World} {A : Nat → Addr} {B : Nat} {l : List Int} {k : Nat} {E : Value} (op : ByteArray) (p : Int) (h : ErrIs w A B l k E) (hk : k ≠ 0) (hB : B ≤ w.heap.size) :
    ErrIs (w.alloc (.cells #[.string op, .int .i64 p, E] 135)) A B (p :: l) k (.iface 133 (.pointer (some ⟨w.heap.size, 0, none⟩))) := by
  rcases h with ⟨rfl, _⟩ | ⟨_, h⟩
  · exact absurd rfl hk
  · exact .inr ⟨hk, w.heap.size, op, E, rfl, hB, heap_alloc_new w _, h.below ((Below.refl _ _).alloc (Nat.le_refl _) _)⟩

/-- what fault.New and fault.Wrap leave -/
def IsFault (A : Nat → Addr) (B : Nat) (l : List Int) (k : Nat) (e : Ending) (w' : World) : Prop := ∃ v, e = .returned v ∧ ErrIs w' A B l k v

theorem faultNew_any (op : ByteArray) (k : Nat) (E : Value) (w : World) (A : Nat → Addr) (B : Nat) (h : ErrIs w A B [] k E) (hk : k ≠ 0) (hB : B ≤ w.heap.size) :
    Calls Tryz.prog 41 #[.string op, E] w fun e w' => IsFault A B [-1] k e w' ∧ Below w.heap.size w w' := by
  have H := Lib.hid (fault_err op (-1) h hk hB)
  obtain ⟨t, x, rfl⟩ := h.iface hk
  clear h
  go_enter Tryz.func41, Tryz.ntmps41
  go_wp2
  go_ret
  exact ⟨⟨_, rfl, H.out⟩, by go_grown⟩
theorem faultWrap_any (op : ByteArray) (l : List Int) (k : Nat) (E : Value) (w : World) (A : Nat → Addr) (B : Nat) (h : ErrIs w A B l k E) (hk : k ≠ 0) (hB : B ≤ w.heap.size) :
    Calls Tryz.prog 43 #[.string op, E] w fun e w' => IsFault A B (-1 :: l) k e w' ∧ Below w.heap.size w w' := by
  have H := Lib.hid (fault_err op (-1) h hk hB)
  obtain ⟨t, x, rfl⟩ := h.iface hk
  clear h
  go_enter Tryz.func43, Tryz.ntmps43
  go_wp2
  go_ret
  exact ⟨⟨_, rfl, H.out⟩, by go_grown⟩
theorem faultWrap_nil (op : ByteArray) (w : World) :
    Calls Tryz.prog 43 #[.string op, .nilIface] w fun e w' => e = .returned .nilIface ∧ w = w' := by
  go_enter Tryz.func43, Tryz.ntmps43
  go_wp2
  go_ret
  exact ⟨rfl, rfl⟩
theorem faultAt_any (op : ByteArray) (p : Int) (l : List Int) (k : Nat) (E : Value) (w : World) (A : Nat → Addr) (B : Nat) (h : ErrIs w A B l k E) (hk : k ≠ 0) (hB : B ≤ w.heap.size) :
    Calls Tryz.prog 47 #[.string op, .int .i64 p, E] w fun e w' => IsFault A B (max p (-1) :: l) k e w' ∧ Below w.heap.size w w' := by
  have H := Lib.hid (fault_err op (max p (-1)) h hk hB)
  obtain ⟨t, x, rfl⟩ := h.iface hk
  clear h
  by_cases hp : p < -1
  · rw [show max p (-1) = -1 by omega] at *
    go_enter Tryz.func47, Tryz.ntmps47
    go_wp2
    go_ret
    exact ⟨⟨_, rfl, H.out⟩, by go_grown⟩
  · rw [show max p (-1) = p by omega] at *
    go_enter Tryz.func47, Tryz.ntmps47
    go_wp2
    go_ret
    exact ⟨⟨_, rfl, H.out⟩, by go_grown⟩
end Go.Proofs.YtflbioiildndoaaGreatDoor

/- what a row's list of variables gives: the nine sentinels lie there, apart from each other; and a world in which they do -/
namespace Go.Proofs.YtflbioiildndoaaGreatDoor
open Go.RowKit Go.ChangeShapes

theorem Tryz.star : "*" ++ "errors.errorString" = "*errors.errorString" := by decide
theorem rowSent (u : TypeId) (h : Tryz.prog.typeName? 3 u = some "*errors.errorString") : u = 176 :=
  typeName_ptr_named (nm := "errors.errorString") (by rw [Tryz.star]; kernel_rfl) (by kernel_rfl) (by decide) u (by rw [Tryz.star]; exact h)
theorem cellsErrStr : Tryz.prog.cellsOf 200 = 1 := by kernel_rfl
theorem cellsStr : Tryz.prog.cellsOf 9 = 1 := by kernel_rfl

/-- a sentinel, read through -/
def IsSent (x : String × DataW Unit) : Prop := (∃ text, x.2 = .iface "*errors.errorString" (.ptr (.agg [.lit (.string text)]))) ∧ ∃ g, Tryz.prog.globalNamed x.1 = some g ∧ (Tryz.prog.globals[g]?).map (·.type) = some 50

set_option maxRecDepth 20000 in
theorem laid_all {W : World} : ∀ (L : List (String × DataW Unit)) (ps : List MemPlace), DataW.LaidVars Tryz.prog W L ps → ps.Nodup →
    (∀ b off, MemPlace.cell b off ∈ ps → (∃ c t, W.heap[b]? = some (.cells c t (0, 0))) ∧ ∀ u v, W.cell? ⟨b, off, none⟩ = some (.iface u v) → Value.okWide Tryz.prog W .any 0 u v) →
    (∀ x ∈ L, IsSent x) →
    ∃ ad : List Addr, ad.length = L.length ∧ ad.Nodup ∧ (∀ a ∈ ad, MemPlace.cell a.block a.off ∈ ps) ∧
      ∀ (i : Nat) x a, L[i]? = some x → ad[i]? = some a → (∃ g, Tryz.prog.globalNamed x.1 = some g ∧ W.cell? ⟨g, 0, none⟩ = some (.iface 176 (.pointer (some a)))) ∧ ∃ c t, W.heap[a.block]? = some (.cells c t (0, 0))
  | [], ps, _, _, _, _ => ⟨[], rfl, List.nodup_nil, fun _ h => (by cases h), fun i x a h _ => (by simp at h)⟩
  | (n, d) :: L, ps, hv, hnd, hrows, hs => by
    obtain ⟨g0, t0, cs0, f0, p0, q0, hg0, ht0, hv0, hd0, hq, e0⟩ := hv
    subst e0
    obtain ⟨⟨text, hd⟩, g, hg, ht⟩ := hs (n, d) List.mem_cons_self
    simp only at hd hg
    subst hd
    obtain rfl := Option.some.inj (hg.symm.trans hg0)
    obtain rfl := Option.some.inj (ht.symm.trans ht0)
    obtain ⟨l0⟩ := cs0
    have ok0 : ∀ u v, l0 = [.iface u v] → Value.okWide Tryz.prog W .any 0 u v := fun u v e => by
      subst e
      exact (hrows g 0 (by simp [MemPlace.row])).2 u v (by simpa using World.var?_cell hg0 hv0 0)
    obtain ⟨a0, s0, rfl, hc0, hs0, hz0, rfl⟩ := errorString_of_trod Tryz.underlying50 rowSent Tryz.underlying176 Tryz.underlying200 rfl rfl Tryz.underlying9 cellsErrStr cellsStr hd0 ok0
    have hspot : a0.spot = none := World.cell?_spot hc0
    obtain ⟨ad, h1, h2, h3, h4⟩ := laid_all L q0 hq (List.Nodup.sublist (List.sublist_append_right _ _) hnd) (fun b off hm => hrows b off (List.mem_append_right _ hm)) (fun x hx => hs x (List.mem_cons_of_mem _ hx))
    have hmem : MemPlace.cell a0.block a0.off ∈ MemPlace.row a0 1 := by simp [MemPlace.row]
    refine ⟨a0 :: ad, by simp [h1], List.nodup_cons.2 ⟨fun hin => ?_, h2⟩, ?_, ?_⟩
    · have hq2 := h3 a0 hin
      have := (List.nodup_append.1 hnd).2.2 _ (List.mem_append_right _ hmem) _ hq2
      exact this rfl
    · intro a ha
      rcases List.mem_cons.1 ha with rfl | ha
      · exact List.mem_append_left _ (List.mem_append_right _ hmem)
      · exact List.mem_append_right _ (h3 a ha)
    · intro i x a hx ha
      cases i with
      | zero =>
        simp at hx ha
        subst hx ha
        refine ⟨⟨g, hg, by simpa using World.var?_cell hg0 hv0 0⟩, ?_⟩
        exact (hrows a0.block a0.off (List.mem_append_left _ (List.mem_append_right _ hmem))).1
      | succ i => exact h4 i x a (by simpa using hx) (by simpa using ha)

/-- the codes of a list -/
def OnList (ks : List Nat) (k : Nat) : Prop := k ∈ ks
instance : Has (OnList [1, 2]) 1 := ⟨by unfold OnList; decide⟩
instance : Has (OnList [1, 2]) 2 := ⟨by unfold OnList; decide⟩
instance : Has (OnList [1, 2, 5]) 1 := ⟨by unfold OnList; decide⟩
instance : Has (OnList [1, 2, 5]) 2 := ⟨by unfold OnList; decide⟩
instance : Has (OnList [1, 2, 5]) 5 := ⟨by unfold OnList; decide⟩
instance : Has (OnList [1, 2, 3, 5, 7]) 1 := ⟨by unfold OnList; decide⟩
instance : Has (OnList [1, 2, 3, 5, 7]) 2 := ⟨by unfold OnList; decide⟩
instance : Has (OnList [1, 2, 3, 5, 7]) 3 := ⟨by unfold OnList; decide⟩
instance : Has (OnList [1, 2, 3, 5, 7]) 5 := ⟨by unfold OnList; decide⟩
instance : Has (OnList [1, 2, 3, 5, 7]) 7 := ⟨by unfold OnList; decide⟩
theorem sents_of_list {W : World} {L : List (String × DataW Unit)} (hL : laidMet Tryz.prog L W) (hS : ∀ x ∈ L, IsSent x) (ks : List Nat) (_hnd : ks.Nodup)
    (hN : L.map (fun x => Tryz.prog.globalNamed x.1) = ks.map fun k => some (sentG k)) : ∃ A, SentsOn (OnList ks) W A := by
  obtain ⟨ps, hv, hndp, hrows⟩ := hL
  obtain ⟨ad, h1, h2, h3, h4⟩ := laid_all L ps hv hndp hrows hS
  have hlen : L.length = ks.length := by simpa using congrArg List.length hN
  have key : ∀ (i k : Nat), ks[i]? = some k → ∃ a, ad[i]? = some a ∧ W.cell? ⟨sentG k, 0, none⟩ = some (.iface 176 (.pointer (some a))) ∧ ∃ c t, W.heap[a.block]? = some (.cells c t (0, 0)) := by
    intro i k hk
    have hi := (List.getElem?_eq_some_iff.1 hk).1
    obtain ⟨a, ha⟩ := getElem?_some_of_lt (show i < ad.length by omega)
    obtain ⟨x, hx⟩ := getElem?_some_of_lt (show i < L.length by omega)
    obtain ⟨⟨g, hg, hc⟩, hr⟩ := h4 i x a hx ha
    have hgk : g = sentG k := by
      have e := congrArg (fun l => l[i]?) hN
      simp only [List.getElem?_map, hx, Option.map_some, hg, hk] at e
      simpa using e
    subst hgk
    exact ⟨a, ha, hc, hr⟩
  have idx : ∀ k, k ∈ ks → ks[ks.idxOf k]? = some k := fun k hk => by
    have := List.idxOf_lt_length_of_mem hk
    rw [List.getElem?_eq_getElem this, List.getElem_idxOf]
  refine ⟨fun k => (ad[ks.idxOf k]?).getD default, ⟨fun k hk => ?_, fun k hk => ?_, fun j k hj hk e => ?_⟩⟩
  · obtain ⟨a, ha, hc, _⟩ := key _ k (idx k hk)
    simp only [ha, Option.getD_some]
    exact hc
  · obtain ⟨a, ha, _, hr⟩ := key _ k (idx k hk)
    simp only [ha, Option.getD_some]
    exact hr
  · obtain ⟨a, ha, _, _⟩ := key _ j (idx j hj)
    obtain ⟨b, hb, _, _⟩ := key _ k (idx k hk)
    simp only [ha, hb, Option.getD_some] at e
    subst e
    have hlt := (List.getElem?_eq_some_iff.1 ha).1
    have e2 := (List.getElem?_inj hlt h2).1 (ha.trans hb.symm)
    have h5 := idx j hj
    rw [e2, idx k hk] at h5
    exact (Option.some.inj h5).symm
/-- the nine, in the order of their codes -/
theorem sents_of_nine {W : World} {L : List (String × DataW Unit)} (hL : laidMet Tryz.prog L W) (hS : ∀ x ∈ L, IsSent x)
    (hN : L.map (fun x => Tryz.prog.globalNamed x.1) = [some (sentG 1), some (sentG 2), some (sentG 3), some (sentG 4), some (sentG 5), some (sentG 6), some (sentG 7), some (sentG 8), some (sentG 9)]) : ∃ A, Sents W A := by
  obtain ⟨A, hA⟩ := sents_of_list hL hS [1, 2, 3, 4, 5, 6, 7, 8, 9] (by decide) hN
  have h9 : ∀ k, Nine k → OnList [1, 2, 3, 4, 5, 6, 7, 8, 9] k := fun k h => by
    unfold Nine at h
    unfold OnList
    simp
    omega
  exact ⟨A, fun k hk => hA.cellOn k (h9 k hk), fun k hk => hA.rowOn k (h9 k hk), fun j k hj hk => hA.injOn j k (h9 j hj) (h9 k hk)⟩

/-! ### a world for the witness -/
abbrev str (l : List UInt8) : ByteArray := ⟨l.toArray⟩
noncomputable def low : Nat := (World.holding Tryz.prog default ⟨#[], #[], []⟩).heap.size
noncomputable def laidWorld (os : Os) : World :=
  let w0 := World.holding Tryz.prog os ⟨#[.cells #[.string (str [102, 111, 114, 109])] 200, .cells #[.string (str [114, 97, 110, 103, 101])] 200, .cells #[.string (str [102, 117, 108, 108])] 200,
    .cells #[.string (str [110, 111, 110, 101])] 200, .cells #[.string (str [99, 111, 114, 114, 117, 112, 116])] 200, .cells #[.string (str [102, 117, 101, 108])] 200,
    .cells #[.string (str [115, 116, 97, 116, 101])] 200, .cells #[.string (str [108, 111, 110, 103])] 200, .cells #[.string (str [116, 119, 105, 99, 101])] 200], #[], []⟩
  { w0 with heap := [1, 2, 3, 4, 5, 6, 7, 8, 9].foldl (fun h k => h.modify (sentG k) fun
      | .cells _ t frozen => .cells #[.iface 176 (.pointer (some ⟨low + (k - 1), 0, none⟩))] t frozen
      | o => o) w0.heap }
end Go.Proofs.YtflbioiildndoaaGreatDoor

/- what an argument reads as: a slice of bytes that came in -/
namespace Go.Proofs.YtflbioiildndoaaGreatDoor
open Go.ChangeShapes Go.WideShapes Go.ChangeAt Go.RowKit

theorem own : ownKnob Tryz.prog.godebug = none := by kernel_rfl
theorem laidOut : laidOutB Tryz.prog = true := by kernel_rfl
theorem bytesOfByte : Tryz.prog.bytesOf 5 = 1 := by kernel_rfl
theorem cellsOfByte : Tryz.prog.cellsOf 5 = 1 := by kernel_rfl

theorem trod_blocks {H : Type} {enc : TypeId × Value → H} {W : World} {t : TypeId} {v : Value} {d : DataW H} {p : List MemPlace}
    (h : DataW.Trod enc Tryz.prog W 0 (fun _ => true) true t v d p) : ∀ x ∈ p, x.block < W.heap.size := by
  obtain ⟨m, hm⟩ := h
  exact DataW.trod_lt m _ _ _ hm

/-- numbers that fit a byte are bytes -/
theorem bytes_of_ints (zs : List Int) (h : ∀ n ∈ zs, (Lit.int .u8 n).wf = true) : ∃ l : List UInt8, zs = l.map fun x => (x.toNat : Int) := by
  induction zs with
  | nil => exact ⟨[], rfl⟩
  | cons z zs ih =>
    obtain ⟨l, rfl⟩ := ih fun n hn => h n (List.mem_cons_of_mem _ hn)
    obtain ⟨x, rfl⟩ := u8_byte (h z List.mem_cons_self)
    exact ⟨x :: l, rfl⟩

set_option maxRecDepth 100000 in
theorem open_bytes {H : Type} {enc : TypeId × Value → H} {W : World} {base : Nat} {v : Value} {d : DataW H} {p : List MemPlace}
    (hv : Value.okWide Tryz.prog W .any base 53 v) (h : DataW.Trod enc Tryz.prog W 0 (fun _ => true) true 53 v d p) :
    ∃ l, BytesAt W v l ∧ ((l = []) ∨ ∃ elems spare, d = .slice elems spare ∧ l.length = elems.length) := by
  obtain ⟨a, len, cap, rfl⟩ := okWide_slice Tryz.underlying53 hv
  obtain ⟨fuel, hf⟩ := h
  rcases open_ints Tryz.underlying53 Tryz.underlying5 cellsOfByte hf with ⟨hcs, _⟩ | ⟨x, n, c, zs, hcs, _, hl, hm, hz, hx, hcell, hwz⟩
  · simp [Value.cells] at hcs
    obtain ⟨rfl, rfl, rfl⟩ := hcs
    exact ⟨[], BytesAt.nil W, .inl rfl⟩
  · simp [Value.cells] at hcs
    obtain ⟨rfl, rfl, rfl⟩ := hcs
    simp only [Prod.mk.injEq] at hx
    simp only [if_true] at hz
    obtain ⟨l, rfl⟩ := bytes_of_ints zs hwz
    simp only [List.length_map] at hz
    have hlen : (l.take len).length = len := by simp; omega
    refine ⟨l.take len, ⟨_, cap, by rw [hlen], by omega, hm, ?_⟩, .inr ⟨_, _, hx.1, by simp [lits]⟩⟩
    by_cases h0 : l.take len = []
    · exact .inl h0
    · right
      obtain ⟨b, off, spot⟩ := x
      have hne : l ≠ [] := fun e => h0 (by rw [e]; simp)
      have hpos : 0 < (l.map fun x => (x.toNat : Int)).length := by
        cases l with
        | nil => exact absurd rfl hne
        | cons _ _ => simp
      have hspot : spot = none := by simpa [Addr.add] using World.cell?_spot (hcell 0 hpos)
      subst hspot
      refine ⟨b, off, rfl, fun i y hy => ?_⟩
      rw [List.getElem?_take] at hy
      split at hy
      · have hi : i < l.length := (List.getElem?_eq_some_iff.1 hy).1
        have := hcell i (by simpa using hi)
        rw [add_plain] at this
        rw [this]
        simp [List.getD, hy]
      · cases hy

/-- the reach, of a slice of bytes -/
theorem reach_bytes {H : Type} {ts : List TypeId} {ds : List (DataW H)} (hsz : (DataW.weightsEach Tryz.prog ts ds).all (· ≤ reachBytes) = true) {j : Nat} {d : DataW H} (ht : ts[j]? = some 53) (hd : ds[j]? = some d)
    {l : List UInt8} (h : (l = []) ∨ ∃ elems spare, d = .slice elems spare ∧ l.length = elems.length) : l.length ≤ 140737488351232 := by
  rcases h with rfl | ⟨elems, spare, rfl, hl⟩
  · simp
  · have := sized_slice hsz ht hd Tryz.underlying53
    rw [bytesOfByte] at this
    simp only [reachBytes] at this
    omega
end Go.Proofs.YtflbioiildndoaaGreatDoor
