/- the document's space: the same list of what each block is; the walks of package scriniumref09 -/
import Derived.Test.YtlkpdehajkffaaaDoorSpaceTurn
namespace Go.Proofs.YtlkpdehajkffaaaDoor
open Go.RowKit
set_option linter.unusedVariables false
set_option linter.unusedSimpArgs false

def wasB (x : Int) : Bool := x == 1 || x == 3
theorem usedB_is (x : Int) : usedB x = (x == 1 || x == 2) := rfl
def blocksV : List Int → List Value
  | [] => []
  | x :: l => .bool (wasB x) :: .bool (usedB x) :: blocksV l
theorem blocksV_length (l : List Int) : (blocksV l).length = l.length * 2 := by
  induction l with
  | nil => rfl
  | cons x l ih => simp [blocksV, ih]; omega
theorem blocksV_append (l m : List Int) : blocksV (l ++ m) = blocksV l ++ blocksV m := by
  induction l with
  | nil => rfl
  | cons x l ih => simp [blocksV, ih]
theorem blocksV_was {l : List Int} {k : Nat} {x : Int} (h : l[k]? = some x) : (blocksV l)[k * 2]? = some (.bool (wasB x)) := by
  induction l generalizing k with
  | nil => simp at h
  | cons y l ih =>
    cases k with
    | zero => simp at h; subst h; rfl
    | succ k => rw [show (k + 1) * 2 = k * 2 + 1 + 1 by omega]; simpa [blocksV] using ih (by simpa using h)
theorem blocksV_is {l : List Int} {k : Nat} {x : Int} (h : l[k]? = some x) : (blocksV l)[k * 2 + 1]? = some (.bool (usedB x)) := by
  induction l generalizing k with
  | nil => simp at h
  | cons y l ih =>
    cases k with
    | zero => simp at h; subst h; rfl
    | succ k => rw [show (k + 1) * 2 + 1 = k * 2 + 1 + 1 + 1 by omega]; simpa [blocksV] using ih (by simpa using h)
theorem blocksV_set {l : List Int} {k : Nat} (x : Int) (h : k < l.length) : ((blocksV l).set (k * 2) (.bool (wasB x))).set (k * 2 + 1) (.bool (usedB x)) = blocksV (l.set k x) := by
  induction l generalizing k with
  | nil => simp at h
  | cons y l ih =>
    cases k with
    | zero => rfl
    | succ k => rw [show (k + 1) * 2 = k * 2 + 1 + 1 by omega]; simpa [blocksV] using ih (by simpa using h)

/-- what may be: 0 to 3 -/
def Legal (l : List Int) : Prop := ∀ x ∈ l, 0 ≤ x ∧ x ≤ 3

/-- the document's space, in memory made from block 'base' on -/
def RefAt (w : World) (base : Nat) (v : Value) (l : List Int) : Prop := ∃ sl, v = .agg #[sl] ∧ w.ownsRow base 68 2 sl l.length (blocksV l)
theorem RefAt.below {w w' : World} {base B : Nat} {v : Value} {l : List Int} (h : RefAt w base v l) (hb : Below B w w') (hB : w.heap.size ≤ B) : RefAt w' base v l := by
  obtain ⟨sl, rfl, h⟩ := h
  refine ⟨sl, rfl, h.kept (grown_of_below hb hB none) (by cases hv : sl.ownBlock <;> simp)⟩
theorem RefAt.mono {w : World} {base b2 : Nat} {v : Value} {l : List Int} (h : RefAt w base v l) (hb : b2 ≤ base) : RefAt w b2 v l := by
  obtain ⟨sl, rfl, h1, h2⟩ := h
  refine ⟨sl, rfl, h1, h2.imp id ?_⟩
  rintro ⟨g, cap, cur, h1, h2, r⟩
  exact ⟨g, cap, cur, h1, by omega, r⟩
/-- behind a write to a block ahead of 'base' -/
theorem RefAt.keep {w w' : World} {base g : Nat} {v : Value} {l : List Int} (h : RefAt w base v l) (hg : w.grownBy w' (some g)) (hlt : g < base) : RefAt w' base v l := by
  obtain ⟨sl, rfl, h⟩ := h
  refine ⟨sl, rfl, h.kept hg ?_⟩
  cases hv : sl.ownBlock with
  | none => exact .inl rfl
  | some k => right; intro e; have := (h.lt k hv).1; simp at e; omega
theorem RefAt.alloc {w : World} {base : Nat} {v : Value} {l : List Int} (h : RefAt w base v l) (o : Obj) : RefAt (w.alloc o) base v l := by
  obtain ⟨sl, rfl, h⟩ := h
  exact ⟨sl, rfl, h.alloc o⟩
theorem RefAt.drew {w : World} {base : Nat} {v : Value} {l : List Int} (h : RefAt w base v l) : RefAt w.drew base v l := h
/-- a reading: nothing, or a row whose cells are known -/
theorem RefAt.row {w : World} {base : Nat} {v : Value} {l : List Int} (h : RefAt w base v l) : ∃ a c, v = .agg #[.slice a l.length c] ∧ l.length ≤ c ∧ c ≤ maxLen ∧
    (l = [] ∨ ∃ g, a = some ⟨g, 0, none⟩ ∧ base ≤ g ∧ g < w.heap.size ∧ (∀ k x, l[k]? = some x → w.cell? ⟨g, k * 2, none⟩ = some (.bool (wasB x)) ∧ w.cell? ⟨g, k * 2 + 1, none⟩ = some (.bool (usedB x)))) := by
  obtain ⟨sl, rfl, h⟩ := h
  have h' := h
  rcases h.2 with ⟨rfl, h0⟩ | ⟨g, cap, cur, rfl, hb, hg, hnc, hcm, hcs, htake⟩
  · obtain rfl : l = [] := List.eq_nil_of_length_eq_zero h0
    exact ⟨none, 0, rfl, Nat.le_refl _, Nat.zero_le _, .inl rfl⟩
  · refine ⟨_, cap, rfl, hnc, hcm, .inr ⟨g, rfl, hb, heap_lt hg, fun k x hx => ?_⟩⟩
    have hlt : k < l.length := (List.getElem?_eq_some_iff.1 hx).1
    exact ⟨by rw [h'.cellAt _ (by omega)]; exact blocksV_was hx, by rw [h'.cellAt _ (by omega)]; exact blocksV_is hx⟩

theorem refFresh_any {w : World} {base : Nat} {v : Value} {l : List Int} (hr : RefAt w base v l) (hl : Legal l) (hlen : l.length ≤ 256) (id : Int) :
    Calls Tryd.prog 21 #[v, .int .i64 id] w fun e w' => e = .returned (.bool (freshS l id)) ∧ Below w.heap.size w w' := by
  obtain ⟨a, c, rfl, h1, h2, hc⟩ := hr.row
  clear hr
  have hm : ((c : Int)) ≤ 9223372036854775807 := by unfold maxLen at h2; omega
  by_cases h0 : 0 ≤ id
  · obtain ⟨k, rfl⟩ : ∃ k : Nat, id = k := ⟨id.toNat, by omega⟩
    clear h0
    by_cases hlt : k < l.length
    · obtain ⟨x, hx⟩ := getElem?_some_of_lt hlt
      rcases hc with rfl | ⟨g, rfl, hbg, hgl, hc⟩
      · simp at hlt
      obtain ⟨c1, c2⟩ := hc k x hx
      have HF := Lib.hid (show freshS l k = (usedB x && !wasB x) by
        unfold freshS
        have := hl x (List.mem_of_getElem? hx)
        rcases (show x = 0 ∨ x = 1 ∨ x = 2 ∨ x = 3 by omega) with rfl | rfl | rfl | rfl <;> simp [hx, usedB, wasB])
      clear hx hl hc
      go_enter Tryd.func21, Tryd.ntmps21
      go_wp2
      all_goals
        go_ret
        exact ⟨ret_bool (by rw [HF.out]; simp_all), by go_grown⟩
    · have HF := Lib.hid (show freshS l k = false by unfold freshS; rw [Int.toNat_natCast, List.getElem?_eq_none (by omega)]; simp)
      clear hc hl
      go_enter Tryd.func21, Tryd.ntmps21
      go_wp2
      go_ret
      exact ⟨ret_bool (by rw [HF.out]), by go_grown⟩
  · have HF := Lib.hid (show freshS l id = false by unfold freshS; simp [h0])
    clear hc hl
    go_enter Tryd.func21, Tryd.ntmps21
    go_wp2
    go_ret
    exact ⟨ret_bool (by rw [HF.out]), by go_grown⟩

theorem refIn_any {w : World} {base : Nat} {v : Value} {l : List Int} (hr : RefAt w base v l) (hlen : l.length ≤ 256) (id : Int) :
    Calls Tryd.prog 41 #[v, .int .i64 id] w fun e w' => e = .returned (.bool (inS l id)) ∧ Below w.heap.size w w' := by
  obtain ⟨a, c, rfl, h1, h2, hc⟩ := hr.row
  clear hr hc
  have HF := Lib.hid (show inS l id = (decide (2 ≤ id) && decide (id < (l.length : Int))) from rfl)
  by_cases h0 : 2 ≤ id
  all_goals
    go_enter Tryd.func41, Tryd.ntmps41
    go_wp2
    go_ret
    exact ⟨ret_bool (by rw [HF.out]; first | (simp [h0]; done) | (simp [h0]; omega)), by go_grown⟩

theorem wasB_not {x : Int} (hl : 0 ≤ x ∧ x ≤ 3) : (x == 0) = (!wasB x && !usedB x) := by
  rcases (show x = 0 ∨ x = 1 ∨ x = 2 ∨ x = 3 by omega) with rfl | rfl | rfl | rfl <;> rfl

set_option maxHeartbeats 1000000 in
theorem refFree_any {w : World} {base : Nat} {v : Value} {l : List Int} (hr : RefAt w base v l) (hl : Legal l) (hlen : l.length ≤ 256) :
    Calls Tryd.prog 36 #[v] w fun e w' => e = .returned (.int .i64 (freeOf l l.length : Nat)) ∧ Below w.heap.size w w' := by
  obtain ⟨a, c, rfl, h1, h2, hc⟩ := hr.row
  clear hr
  have hm : ((c : Int)) ≤ 9223372036854775807 := by unfold maxLen at h2; omega
  have HC := Lib.hid hc
  have HL := Lib.hid hl
  clear hc hl
  go_enter Tryd.func36, Tryd.ntmps36
  go_wp2
  go_loop [3, 4] (fun c i => ∃ k : Nat, k ≤ l.length ∧ i = .int .i64 k ∧ c = .int .i64 (freeOf l k : Nat)) (fun _ i => l.length - (intOf i).toNat)
  case atStart => exact ⟨0, by omega, rfl, rfl⟩
  case round =>
    obtain ⟨k, hk, rfl, rfl⟩ := hrel
    by_cases hlt : k < l.length
    · obtain ⟨x, hx⟩ := getElem?_some_of_lt hlt
      rcases HC.out with hn | ⟨g, rfl, hbg, hgl, hc⟩
      · rw [hn] at hlt; simp at hlt
      obtain ⟨c1, c2⟩ := hc k x hx
      have hx4 := HL.out x (List.mem_of_getElem? hx)
      have HF := Lib.hid (freeOf_succ hx)
      have HW := Lib.hid (wasB_not hx4)
      have hfl := freeOf_le l k
      generalize freeOf l k = a at *
      generalize hwx : wasB x = wx at *
      generalize hux : usedB x = ux at *
      clear hx hwx hux hc
      go_wp2
      all_goals
        go_round
        case rel => exact ⟨k + 1, by omega, by go_num, by rw [HF.out, HW.out]; simp_all⟩
        case measure => simp [intOf]; omega
    · have hk2 : k = l.length := by omega
      subst hk2
      go_wp2
      go_ret
      exact ⟨rfl, by go_grown⟩

/-- how many of the first k are leaving -/
def leaveOf (l : List Int) (k : Nat) : Nat := (l.take k).countP (· == 3)
theorem leaveOf_succ {l : List Int} {k : Nat} {x : Int} (h : l[k]? = some x) : leaveOf l (k + 1) = leaveOf l k + if x == 3 then 1 else 0 := by
  unfold leaveOf
  rw [List.take_add_one, h, List.countP_append]
  simp [List.countP_cons]
theorem leaveOf_le (l : List Int) (k : Nat) : leaveOf l k ≤ k := by
  unfold leaveOf
  exact Nat.le_trans List.countP_le_length (by rw [List.length_take]; omega)
theorem wasB_leaves {x : Int} (hl : 0 ≤ x ∧ x ≤ 3) : (x == 3) = (wasB x && !usedB x) := by
  rcases (show x = 0 ∨ x = 1 ∨ x = 2 ∨ x = 3 by omega) with rfl | rfl | rfl | rfl <;> rfl

set_option maxHeartbeats 1000000 in
theorem refLeaving_any {w : World} {base : Nat} {v : Value} {l : List Int} (hr : RefAt w base v l) (hl : Legal l) (hlen : l.length ≤ 256) :
    Calls Tryd.prog 25 #[v] w fun e w' => e = .returned (.int .i64 (leaveOf l l.length : Nat)) ∧ Below w.heap.size w w' := by
  obtain ⟨a, c, rfl, h1, h2, hc⟩ := hr.row
  clear hr
  have hm : ((c : Int)) ≤ 9223372036854775807 := by unfold maxLen at h2; omega
  have HC := Lib.hid hc
  have HL := Lib.hid hl
  clear hc hl
  go_enter Tryd.func25, Tryd.ntmps25
  go_wp2
  go_loop [3, 4] (fun c i => ∃ k : Nat, k ≤ l.length ∧ i = .int .i64 k ∧ c = .int .i64 (leaveOf l k : Nat)) (fun _ i => l.length - (intOf i).toNat)
  case atStart => exact ⟨0, by omega, rfl, rfl⟩
  case round =>
    obtain ⟨k, hk, rfl, rfl⟩ := hrel
    by_cases hlt : k < l.length
    · obtain ⟨x, hx⟩ := getElem?_some_of_lt hlt
      rcases HC.out with hn | ⟨g, rfl, hbg, hgl, hc⟩
      · rw [hn] at hlt; simp at hlt
      obtain ⟨c1, c2⟩ := hc k x hx
      have hx4 := HL.out x (List.mem_of_getElem? hx)
      have HF := Lib.hid (leaveOf_succ hx)
      have HW := Lib.hid (wasB_leaves hx4)
      have hfl := leaveOf_le l k
      generalize leaveOf l k = a at *
      generalize hwx : wasB x = wx at *
      generalize hux : usedB x = ux at *
      clear hx hwx hux hc
      go_wp2
      all_goals
        go_round
        case rel => exact ⟨k + 1, by omega, by go_num, by rw [HF.out, HW.out]; simp_all⟩
        case measure => simp [intOf]; omega
    · have hk2 : k = l.length := by omega
      subst hk2
      go_wp2
      go_ret
      exact ⟨rfl, by go_grown⟩
end Go.Proofs.YtlkpdehajkffaaaDoor
