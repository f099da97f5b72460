/- the plain law of disks: corrupted twice; of many flushes; a crash that keeps all, or none -/
import Derived.Test.YtflbioiildndoaaDoorBlockMath
namespace Go.Proofs.YtflbioiildndoaaDoor

theorem flip_get (l : List UInt8) (n j : Nat) : (flip l n)[j]? = (l[j]?).map (fun x => if n / 8 = j then x ^^^ UInt8.ofNat (2 ^ (n % 8)) else x) := by
  unfold flip
  split
  · rename_i h
    rw [List.getElem?_set]
    by_cases hj : n / 8 = j
    · subst hj
      rw [if_pos rfl, if_pos h]
      simp [List.getD, List.getElem?_eq_getElem h]
    · rw [if_neg hj]
      simp [hj]
  · rename_i h
    by_cases hj : n / 8 = j
    · subst hj
      rw [List.getElem?_eq_none (by omega)]; rfl
    · simp [hj]
theorem flip_flip (l : List UInt8) (n : Nat) : flip (flip l n) n = l := by
  apply List.ext_getElem?
  intro j
  rw [flip_get, flip_get, Option.map_map]
  have : ((fun x : UInt8 => if n / 8 = j then x ^^^ UInt8.ofNat (2 ^ (n % 8)) else x) ∘ fun x => if n / 8 = j then x ^^^ UInt8.ofNat (2 ^ (n % 8)) else x) = id := by
    funext x
    simp only [Function.comp, id]
    split
    · rw [UInt8.xor_assoc, UInt8.xor_self, UInt8.xor_zero]
    · rfl
  rw [this]
  simp
theorem flip_comm (l : List UInt8) (a b : Nat) : flip (flip l a) b = flip (flip l b) a := by
  apply List.ext_getElem?
  intro j
  rw [flip_get, flip_get, flip_get, flip_get, Option.map_map, Option.map_map]
  congr 1
  funext x
  simp only [Function.comp]
  split <;> split <;> first | rfl | (rw [UInt8.xor_assoc, UInt8.xor_comm (UInt8.ofNat _), ← UInt8.xor_assoc])
theorem changed_flip (l : List UInt8) (bit : Nat) (mask : BitVec 32) (n : Nat) : ∀ k, changed (flip l n) bit mask k = flip (changed l bit mask k) n
  | 0 => rfl
  | k + 1 => by
    rw [changed, changed, changed_flip l bit mask n k]
    split
    · exact flip_comm _ _ _
    · rfl
theorem changed_twice (l : List UInt8) (bit : Nat) (mask : BitVec 32) : ∀ k, changed (changed l bit mask k) bit mask k = l
  | 0 => rfl
  | k + 1 => by
    have ih := changed_twice l bit mask k
    rw [changed, changed]
    split
    · rw [changed_flip, flip_flip, ih]
    · exact ih

namespace Bk
theorem set_same {α : Type} {l : List α} {i : Nat} {x : α} (h : l[i]? = some x) : l.set i x = l := by
  apply List.ext_getElem?
  intro j
  rw [List.getElem?_set]
  split
  · rename_i e; subst e
    rw [if_pos (List.getElem?_eq_some_iff.1 h).1, h]
  · rfl
/-- corrupted twice alike a disk is what it was -/
theorem corrupt_twice {n : Nat} {d : Disk} (h : Ok n d) {i bit : Int} {mask : BitVec 32} (hc : In d i ∧ 0 ≤ bit ∧ bit < 8 * d.size) : (corrupt (corrupt d i bit mask).1 i bit mask).1 = d := by
  have hi : i.toNat < d.blocks := by have := hc.1; unfold In at this; omega
  have hl := (h.lastB hi).2
  unfold corrupt
  rw [if_pos hc]
  simp only
  rw [if_pos (show In { d with lasting := d.lasting.set i.toNat (changed (lastB d i.toNat) bit.toNat mask 32) } i ∧ 0 ≤ bit ∧ bit < 8 * d.size from hc)]
  simp only
  have e : lastB { d with lasting := d.lasting.set i.toNat (changed (lastB d i.toNat) bit.toNat mask 32) } i.toNat = changed (lastB d i.toNat) bit.toNat mask 32 := by
    unfold lastB
    simp only
    rw [List.getD_eq_getElem?_getD, List.getElem?_set, if_pos rfl, if_pos (by rw [h.len]; exact hi)]
    rfl
  rw [e, changed_twice, List.set_set, set_same hl]
theorem corrupt_code {d : Disk} {i bit : Int} {mask : BitVec 32} (hc : In d i ∧ 0 ≤ bit ∧ bit < 8 * d.size) : (corrupt d i bit mask).2 = 0 := by unfold corrupt; rw [if_pos hc]
theorem allK_nil (l : List Blk) : ∀ k, allK [] l k = l
  | 0 => rfl
  | k + 1 => by rw [allK]; simp only [List.getElem?_nil]; exact allK_nil l k
/-- a fuse that lets a calls be done, over a disk whose power is on -/
def armed (d : Disk) (a : Nat) (cut : Int) : Disk := { d with lit := true, after := (a : Int), torn := -1, cut := cut, keep := [], off := false }
/-- behind k flushes -/
def fl (d : Disk) : Nat → Disk
  | 0 => d
  | k + 1 => (flush (fl d k)).1
theorem fl_ok {n : Nat} {d : Disk} (h : Ok n d) : ∀ k, Ok n (fl d k)
  | 0 => h
  | k + 1 => (fl_ok h k).flush
theorem armed_ok {n : Nat} {d : Disk} (h : Ok n d) (a : Nat) (cut : Int) : Ok n (armed d a cut) := ⟨h.b, h.s, h.len, h.each, h.wait, h.many⟩
theorem armed_is (d : Disk) (a : Nat) (cut : Int) : (arm (on d) (a : Int) [] (-1) cut).1 = armed d a cut ∧ (arm (on d) (a : Int) [] (-1) cut).2 = 0 := by
  unfold arm
  rw [if_neg (by omega)]
  exact ⟨rfl, rfl⟩
/-- behind k of the calls that the fuse lets -/
theorem fl_before (d : Disk) (a : Nat) (ha : a < 8) (cut : Int) : ∀ k, k < a → fl (armed d a cut) (k + 1) = { armed d a cut with lasting := allK d.waiting d.lasting d.waiting.length, waiting := [], after := (a : Int) - (k : Int) - 1, count := IntKind.i64.wrap (d.count + ((k : Int) + 1)) }
  | 0, h0 => by
    have h1 : ¬ (armed d a cut).off = true := by simp [armed]
    have h2 : ¬ blows (armed d a cut) := by unfold blows armed; simp only; omega
    have h3 : IntKind.i64.wrap ((a : Int) - 1) = (a : Int) - ((0 : Nat) : Int) - 1 := by rw [IntKind.wrap_i64]; omega
    rw [fl, fl, flush, if_neg h1, if_neg h2]
    simp only [all, ticked, armed]
    rw [h3]
    rfl
  | k + 1, hk => by
    have ih := fl_before d a ha cut k (by omega)
    rw [fl, ih, flush]
    have h1 : ¬ ({ armed d a cut with lasting := allK d.waiting d.lasting d.waiting.length, waiting := [], after := (a : Int) - (k : Int) - 1, count := IntKind.i64.wrap (d.count + ((k : Int) + 1)) } : Disk).off = true := by simp [armed]
    have h2 : ¬ blows { armed d a cut with lasting := allK d.waiting d.lasting d.waiting.length, waiting := [], after := (a : Int) - (k : Int) - 1, count := IntKind.i64.wrap (d.count + ((k : Int) + 1)) } := by unfold blows armed; simp only; omega
    have h3 : IntKind.i64.wrap ((a : Int) - (k : Int) - 1 - 1) = (a : Int) - ((k + 1 : Nat) : Int) - 1 := by rw [IntKind.wrap_i64]; omega
    have h4 : IntKind.i64.wrap (IntKind.i64.wrap (d.count + ((k : Int) + 1)) + 1) = IntKind.i64.wrap (d.count + (((k + 1 : Nat) : Int) + 1)) := by rw [IntKind.wrap_i64, IntKind.wrap_i64, IntKind.wrap_i64]; omega
    rw [if_neg h1, if_neg h2]
    simp only [all, ticked, armed]
    rw [h3, h4]
    rfl
/-- the fuse blows -/
theorem fl_blown (d : Disk) (a : Nat) (ha : a < 8) (cut : Int) : ∀ k, a < k → fl (armed d a cut) k = { armed d a cut with lasting := (if a = 0 then d.lasting else allK d.waiting d.lasting d.waiting.length), waiting := [], lit := false, after := 0, torn := 0, cut := 0, keep := [], off := true, count := (if a = 0 then d.count else IntKind.i64.wrap (d.count + (a : Int))) }
  | 0, h => by omega
  | k + 1, hk => by
    by_cases hak : a < k
    · rw [fl, fl_blown d a ha cut k hak, flush, if_pos rfl]
    · obtain rfl : a = k := by omega
      rw [fl]
      cases a with
      | zero =>
        have h1 : ¬ (armed d 0 cut).off = true := by simp [armed]
        have h2 : blows (armed d 0 cut) := by unfold blows armed; exact ⟨rfl, rfl⟩
        rw [fl, flush, if_neg h1, if_pos h2]
        simp only [blown, crash, armed, if_true]
        rw [crashK_none]
      | succ b =>
        rw [fl_before d (b + 1) ha cut b (by omega)]
        have h1 : ¬ ({ armed d (b + 1) cut with lasting := allK d.waiting d.lasting d.waiting.length, waiting := [], after := ((b + 1 : Nat) : Int) - (b : Int) - 1, count := IntKind.i64.wrap (d.count + ((b : Int) + 1)) } : Disk).off = true := by simp [armed]
        have h2 : blows { armed d (b + 1) cut with lasting := allK d.waiting d.lasting d.waiting.length, waiting := [], after := ((b + 1 : Nat) : Int) - (b : Int) - 1, count := IntKind.i64.wrap (d.count + ((b : Int) + 1)) } := by unfold blows armed; exact ⟨rfl, by simp only; omega⟩
        rw [flush, if_neg h1, if_pos h2]
        simp only [blown, crash, armed]
        rw [if_neg (by omega), if_neg (by omega)]
        rfl
theorem fl_code (d : Disk) (a : Nat) (ha : a < 8) (cut : Int) (k : Nat) : (flush (fl (armed d a cut) k)).2 = if k < a then 0 else 7 := by
  by_cases hk : k < a
  · rw [if_pos hk]
    cases k with
    | zero =>
      rw [fl, flush, if_neg (by simp [armed]), if_neg (by unfold blows armed; simp only; omega)]
    | succ b =>
      rw [fl_before d a ha cut b (by omega), flush, if_neg (by simp [armed]), if_neg (by unfold blows armed; simp only; omega)]
  · rw [if_neg hk]
    by_cases hak : a < k
    · rw [fl_blown d a ha cut k hak, flush, if_pos rfl]
    · obtain rfl : a = k := by omega
      cases a with
      | zero => rw [fl, flush, if_neg (by simp [armed]), if_pos (by unfold blows armed; exact ⟨rfl, rfl⟩)]
      | succ b =>
        rw [fl_before d (b + 1) ha cut b (by omega), flush, if_neg (by simp [armed]), if_pos (by unfold blows armed; exact ⟨rfl, by simp only; omega⟩)]
end Bk
end Go.Proofs.YtflbioiildndoaaDoor
