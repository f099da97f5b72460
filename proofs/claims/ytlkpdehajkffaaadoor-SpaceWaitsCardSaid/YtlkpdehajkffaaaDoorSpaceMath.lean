/- the plain law of a space: what its calls tell and leave -/
import Derived.Test.YtlkpdehajkffaaaDoorRefSpace
namespace Go.Proofs.YtlkpdehajkffaaaDoor
open Go.RowKit
set_option linter.unusedVariables false
set_option linter.unusedSimpArgs false

/-! ### the first free one -/
def takeK (l : List Int) : Nat := l.findIdx (· == 0)
def takeFound (l : List Int) : Bool := decide (takeK l < l.length)
def takeC (l : List Int) : Nat := if takeFound l then 0 else 3
def takeI (l : List Int) : Int := if takeFound l then (takeK l : Int) else 0
def takeL (l : List Int) : List Int := if takeFound l then l.set (takeK l) 2 else l
theorem takeK_at {l : List Int} (h : takeFound l = true) : l[takeK l]? = some 0 := by
  have hlt : takeK l < l.length := by simpa [takeFound] using h
  have := List.findIdx_getElem (p := (· == (0 : Int))) (xs := l) (w := hlt)
  rw [List.getElem?_eq_getElem hlt]
  unfold takeK
  have h2 : l[l.findIdx (· == (0 : Int))] = 0 := by simpa using this
  rw [h2]
theorem takeK_before (l : List Int) (j : Nat) (h : j < takeK l) : l[j]? ≠ some 0 := by
  intro e
  obtain ⟨hj, e⟩ := List.getElem?_eq_some_iff.1 e
  have := List.not_of_lt_findIdx (p := (· == (0 : Int))) (xs := l) h
  simp [e] at this
theorem take_none {l : List Int} (h : takeFound l = false) (j : Nat) : l[j]? ≠ some 0 := by
  intro e
  obtain ⟨hj, e'⟩ := List.getElem?_eq_some_iff.1 e
  have hk : ¬ takeK l < l.length := by simpa [takeFound] using h
  have := List.findIdx_lt_length_of_exists (p := (· == (0 : Int))) (xs := l) ⟨l[j], List.getElem_mem hj, by simp [e']⟩
  exact hk this
theorem takeK_of {l : List Int} {m : Nat} (hm : l[m]? = some 0) (hb : ∀ j : Nat, j < m → l[j]? ≠ some 0) : takeFound l = true ∧ takeK l = m := by
  have hf : takeFound l = true := by
    cases h : takeFound l with
    | true => rfl
    | false => exact absurd hm (take_none h m)
  refine ⟨hf, ?_⟩
  rcases Nat.lt_trichotomy (takeK l) m with h | h | h
  · exact absurd (takeK_at hf) (hb _ h)
  · exact h
  · exact absurd hm (takeK_before l m h)

/-! ### what may be stays so -/
theorem Legal.set {l : List Int} (h : Legal l) (k : Nat) {x : Int} (hx : 0 ≤ x ∧ x ≤ 3) : Legal (l.set k x) := by
  intro y hy
  rcases List.mem_or_eq_of_mem_set hy with h2 | rfl
  · exact h y h2
  · exact hx
theorem Legal.tr {l : List Int} (h : Legal l) (a b : Int) (hb : 0 ≤ b ∧ b ≤ 3) : Legal (l.map (tr a b)) := by
  intro y hy
  obtain ⟨x, hx, rfl⟩ := List.mem_map.1 hy
  unfold Proofs.YtlkpdehajkffaaaDoor.tr
  split
  · exact hb
  · exact h x hx
theorem legal_fresh0 (n : Nat) : Legal (fresh0 n) := by
  unfold fresh0
  refine Legal.set (Legal.set ?_ 0 (by omega)) 1 (by omega)
  intro x hx
  have := List.eq_of_mem_replicate hx
  omega
theorem legal_take {l : List Int} (h : Legal l) : Legal (takeL l) := by
  unfold takeL; split
  · exact h.set _ (by omega)
  · exact h
theorem elim_cases {P : List Int → Prop} {o : Option Int} {l : List Int} {f : Int → List Int} (h0 : P l) (h1 : ∀ x, o = some x → P (f x)) : P (o.elim l f) := by
  cases o with
  | none => exact h0
  | some x => exact h1 x rfl
theorem legal_give {l : List Int} (h : Legal l) (id : Int) : Legal (giveL l id) := by
  unfold giveL; split
  · refine elim_cases h fun x _ => ?_
    split
    · exact h.set _ (by omega)
    · split
      · exact h.set _ (by omega)
      · exact h
  · exact h
theorem legal_mark {l : List Int} (h : Legal l) (id : Int) : Legal (markL l id) := by
  unfold markL; split
  · refine elim_cases h fun x _ => ?_
    split
    · exact h.set _ (by omega)
    · exact h
  · exact h
theorem legal_commit {l : List Int} (h : Legal l) : Legal (commitL l) := (h.tr 2 1 (by omega)).tr 3 0 (by omega)
theorem legal_roll {l : List Int} (h : Legal l) : Legal (rollL l) := (h.tr 2 0 (by omega)).tr 3 1 (by omega)

theorem takeL_length (l : List Int) : (takeL l).length = l.length := by unfold takeL; split <;> simp
theorem giveL_length (l : List Int) (id : Int) : (giveL l id).length = l.length := by
  unfold giveL; split
  · exact elim_cases (P := fun m => m.length = l.length) rfl fun x _ => by
      split
      · simp
      · split <;> simp
  · rfl
theorem markL_length (l : List Int) (id : Int) : (markL l id).length = l.length := by
  unfold markL; split
  · exact elim_cases (P := fun m => m.length = l.length) rfl fun x _ => by split <;> simp
  · rfl
theorem commitL_length (l : List Int) : (commitL l).length = l.length := by simp [commitL]
theorem rollL_length (l : List Int) : (rollL l).length = l.length := by simp [rollL]

/-! ### a call of any kind -/
def stepL (l : List Int) (kind id : Int) : List Int :=
  if kind = 0 then takeL l else if kind = 1 then giveL l id else if kind = 2 then markL l id else if kind = 3 then commitL l else rollL l
theorem legal_step {l : List Int} (h : Legal l) (kind id : Int) : Legal (stepL l kind id) := by
  unfold stepL
  split; · exact legal_take h
  split; · exact legal_give h id
  split; · exact legal_mark h id
  split; · exact legal_commit h
  exact legal_roll h
theorem stepL_length (l : List Int) (kind id : Int) : (stepL l kind id).length = l.length := by
  unfold stepL
  split; · exact takeL_length l
  split; · exact giveL_length l id
  split; · exact markL_length l id
  split; · exact commitL_length l
  exact rollL_length l

/-! ### what was there behind the last commit -/
theorem roll_commit (l : List Int) (h : Legal l) : rollL (commitL l) = commitL l := by
  unfold rollL commitL
  simp only [List.map_map]
  apply List.map_congr_left
  intro x hx
  have := h x hx
  simp only [Function.comp]
  rcases (show x = 0 ∨ x = 1 ∨ x = 2 ∨ x = 3 by omega) with rfl | rfl | rfl | rfl <;> rfl
def rl (x : Int) : Int := tr 3 1 (tr 2 0 x)
theorem rollL_eq (l : List Int) : rollL l = l.map rl := by
  unfold rollL
  rw [List.map_map]
  rfl
theorem rollL_set {l : List Int} {k : Nat} {x y : Int} (hx : l[k]? = some x) (hr : rl y = rl x) : rollL (l.set k y) = rollL l := by
  rw [rollL_eq, rollL_eq, List.map_set, hr]
  apply List.ext_getElem?
  intro i
  rw [List.getElem?_set]
  split
  · rename_i e
    subst e
    split
    · simp [hx]
    · rename_i h
      rw [List.getElem?_eq_none (by simpa using h)]
  · rfl
theorem roll_take (l : List Int) : rollL (takeL l) = rollL l := by
  unfold takeL; split
  · rename_i h
    exact rollL_set (takeK_at h) rfl
  · rfl
theorem roll_give (l : List Int) (id : Int) : rollL (giveL l id) = rollL l := by
  unfold giveL; split
  · cases hx : l[id.toNat]? with
    | none => rfl
    | some x =>
      simp only [Option.elim]
      split
      · rename_i e; subst e; exact rollL_set hx rfl
      · split
        · rename_i e; subst e; exact rollL_set hx rfl
        · rfl
  · rfl

/-! ### all blocks -/
theorem usedOf_count (l : List Int) (k : Nat) (hk : k ≤ l.length) : (usedOf l k).length = (l.take k).countP usedB := by
  induction k with
  | zero => rfl
  | succ k ih =>
    obtain ⟨x, hx⟩ := getElem?_some_of_lt (show k < l.length by omega)
    rw [usedOf_succ hx, List.length_append, ih (by omega), List.take_add_one, hx, List.countP_append]
    cases h : usedB x <;> simp [h, List.countP_cons]
theorem whole (l : List Int) (h : Legal l) : freeOf l l.length + (usedOf l l.length).length + leaveOf l l.length = l.length := by
  rw [usedOf_count l _ (Nat.le_refl _)]
  unfold freeOf leaveOf
  rw [List.take_length]
  induction l with
  | nil => rfl
  | cons x l ih =>
    have hx := h x List.mem_cons_self
    have := ih fun y hy => h y (List.mem_cons_of_mem _ hy)
    simp only [List.countP_cons, List.length_cons]
    rcases (show x = 0 ∨ x = 1 ∨ x = 2 ∨ x = 3 by omega) with rfl | rfl | rfl | rfl <;> simp [usedB] <;> omega

/-! ### a block that waits -/
/-- behind i of the calls of Take: was it taken? -/
def Waits (fr : Bool) (id : Int) (i : Nat) (l : List Int) (found : Bool) : Prop :=
  l.length ≤ 16 ∧ if fr then found = true ∨ (l[id.toNat]? = some 0 ∧ l.countP (· == 0) + i ≤ 16) else found = false ∧ l[id.toNat]? = some 3
theorem count_set {l : List Int} {k : Nat} (h : l[k]? = some 0) : (l.set k 2).countP (· == 0) + 1 = l.countP (· == 0) := by
  induction l generalizing k with
  | nil => simp at h
  | cons x l ih =>
    cases k with
    | zero => simp at h; subst h; simp
    | succ k =>
      have := ih (k := k) (by simpa using h)
      simp only [List.set_cons_succ, List.countP_cons]
      omega
theorem Waits.next {fr : Bool} {id : Int} {i : Nat} {l : List Int} {found : Bool} (h : Waits fr id i l found) (h0 : 0 ≤ id) :
    Waits fr id (i + 1) (takeL l) (found || (decide (takeC l = 0) && decide (takeI l = id))) := by
  obtain ⟨hl, h⟩ := h
  refine ⟨by rw [takeL_length]; exact hl, ?_⟩
  cases fr with
  | true =>
    simp only [if_true] at h ⊢
    rcases h with rfl | ⟨h1, h2⟩
    · left; rfl
    · have hf : takeFound l = true := by
        cases hh : takeFound l with
        | true => rfl
        | false => exact absurd h1 (take_none hh _)
      have hk := takeK_at hf
      have hc := count_set hk
      by_cases he : takeK l = id.toNat
      · left
        have e1 : takeC l = 0 := by unfold takeC; rw [if_pos hf]
        have e2 : takeI l = id := by unfold takeI; rw [if_pos hf]; omega
        simp [e1, e2]
      · right
        unfold takeL
        rw [if_pos hf]
        refine ⟨?_, by omega⟩
        rw [List.getElem?_set, if_neg (by omega)]
        exact h1
  | false =>
    simp only [Bool.false_eq_true, if_false] at h ⊢
    obtain ⟨rfl, h1⟩ := h
    by_cases hf : takeFound l = true
    · have hk := takeK_at hf
      have hne : takeK l ≠ id.toNat := fun e => by rw [e, h1] at hk; simp at hk
      have e2 : takeI l ≠ id := by unfold takeI; rw [if_pos hf]; omega
      refine ⟨by simp [e2], ?_⟩
      unfold takeL
      rw [if_pos hf, List.getElem?_set, if_neg (by omega)]
      exact h1
    · have e1 : takeC l ≠ 0 := by unfold takeC; rw [if_neg hf]; decide
      refine ⟨by simp [e1], ?_⟩
      unfold takeL
      rw [if_neg hf]
      exact h1
theorem Waits.last {fr : Bool} {id : Int} {l : List Int} {found : Bool} (h : Waits fr id 20 l found) : found = fr := by
  obtain ⟨hl, h⟩ := h
  cases fr with
  | true =>
    simp only [if_true] at h
    rcases h with rfl | ⟨h1, h2⟩
    · rfl
    · omega
  | false => simp only [Bool.false_eq_true, if_false] at h; exact h.1
theorem Waits.start {l : List Int} (hl : l.length ≤ 16) (hL : Legal l) (id : Int) (h : giveC l id = 0) : Waits (freshS l id) id 0 (giveL l id) false ∧ 0 ≤ id := by
  have hin : inS l id = true := by
    cases hh : inS l id with
    | true => rfl
    | false => unfold giveC at h; rw [hh] at h; simp at h
  have hid : 2 ≤ id ∧ id < (l.length : Int) := by unfold inS at hin; simpa using hin
  refine ⟨⟨by rw [giveL_length]; exact hl, ?_⟩, by omega⟩
  obtain ⟨x, hx⟩ := getElem?_some_of_lt (show id.toNat < l.length by omega)
  have hlt : id.toNat < l.length := by omega
  have hu : usedB x = true := by
    unfold giveC at h
    rw [if_pos hin, hx] at h
    simp only [Option.elim] at h
    split at h
    · assumption
    · simp at h
  have hg : giveL l id = if x = 2 then l.set id.toNat 0 else if x = 1 then l.set id.toNat 3 else l := by
    unfold giveL
    rw [if_pos hin, hx]
    rfl
  have hf : freshS l id = (x == 2) := by
    unfold freshS
    rw [hx]
    simp; omega
  have hxc : x = 1 ∨ x = 2 := by unfold usedB at hu; simpa using hu
  rw [hg, hf]
  rcases hxc with rfl | rfl
  · simp [List.getElem?_set, hlt]
  · simp [List.getElem?_set, hlt]
    have := List.countP_le_length (p := (· == (0 : Int))) (l := l.set id.toNat 0)
    simp at this
    omega
end Go.Proofs.YtlkpdehajkffaaaDoor
