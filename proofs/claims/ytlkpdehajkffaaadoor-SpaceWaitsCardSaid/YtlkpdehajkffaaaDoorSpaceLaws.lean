/- the walks of layer 09's statements that reach no reference space: awake, SpaceNews, SpaceNil -/
import Derived.Test.YtlkpdehajkffaaaDoorSpaceTurn
import Derived.Test.YtlkpdehajkffaaaDoorSameInts
import Derived.Test.YtlkpdehajkffaaaDoorTells09
namespace Go.Proofs.YtlkpdehajkffaaaDoor
open Go.RowKit

theorem free_is {w : World} {B p g : Nat} {l : List Int} (hs : SpaceAt w B p g l) (m : Int) (hm : (freeOf l l.length : Nat) = m) :
    Calls Tryd.prog 12 #[.pointer (some ⟨p, 0, none⟩)] w fun e w' => e = .returned (.int .i64 m) ∧ w = w' := by
  subst hm; exact free_any hs
theorem fresh_is {w : World} {B p g : Nat} {l : List Int} (hs : SpaceAt w B p g l) (id : Int) (b : Bool) (hb : freshS l id = b) :
    Calls Tryd.prog 17 #[.pointer (some ⟨p, 0, none⟩), .int .i64 id] w fun e w' => e = .returned (.bool b) ∧ w = w' := by
  subst hb; exact fresh_any hs id

theorem fresh0_length (n : Nat) : (fresh0 n).length = n := by simp [fresh0]
theorem fresh0_eq (n : Nat) : fresh0 (n + 2) = 1 :: 1 :: List.replicate n 0 := by simp [fresh0, List.replicate_succ]
theorem freeOf_fresh0 (n : Nat) (h : 2 ≤ n) : (freeOf (fresh0 n) (fresh0 n).length : Nat) = ((n : Int) - 2) := by
  obtain ⟨m, rfl⟩ : ∃ m, n = m + 2 := ⟨n - 2, by omega⟩
  have : freeOf (fresh0 (m + 2)) (fresh0 (m + 2)).length = m := by
    unfold freeOf
    rw [List.take_length, fresh0_eq]
    simp [List.countP_replicate]
  rw [this]; omega
theorem usedOf_fresh0 (n : Nat) (h : 2 ≤ n) : usedOf (fresh0 n) (fresh0 n).length = [0, 1] := by
  obtain ⟨m, rfl⟩ : ∃ m, n = m + 2 := ⟨n - 2, by omega⟩
  have key : ∀ k, k ≤ m → usedOf (fresh0 (m + 2)) (k + 2) = [0, 1] := by
    intro k
    induction k with
    | zero => intro _; rw [fresh0_eq]; rfl
    | succ k ih =>
      intro hk
      have hx : (fresh0 (m + 2))[k + 2]? = some 0 := by
        rw [fresh0_eq]
        simp [List.getElem?_replicate]
        omega
      rw [show k + 1 + 2 = (k + 2) + 1 from rfl, usedOf_succ hx, ih (by omega)]
      rfl
  rw [fresh0_length]
  exact key m (Nat.le_refl _)

set_option maxHeartbeats 1000000 in
theorem awake_any (w : World) : Calls Tryd.prog 11 #[] w fun e w' => e = .returned (.bool true) ∧ Below w.heap.size w w' := by
  go_enter Tryd.func11, Tryd.ntmps11
  go_wp2_with (go_at_call 9; refine (new_ok 8 (by decide) (by decide) _).mono ?_; rintro e w1 ⟨⟨p, g, rfl, hs⟩, hb⟩)
  have HS := Lib.hid hs
  have HB := Lib.hid hb
  clear hs hb
  go_wp2_with (go_at_call 19; refine (take_ok HS.out 2 (by decide) (by decide)).mono ?_; rintro e w2 ⟨rfl, hs2, hb2⟩)
  have HS2 := Lib.hid hs2
  have HB2 := Lib.hid hb2
  clear hs2 hb2
  go_wp2_with (first | (go_at_call 12; refine (free_is HS2.out 5 (by decide)).mono ?_; rintro e w3 ⟨rfl, rfl⟩) | (go_at_call 17; refine (fresh_is HS2.out 2 true (by decide)).mono ?_; rintro e w3 ⟨rfl, rfl⟩))
  go_ret
  exact ⟨rfl, HB.out.trans (below_of_grown HB2.out HS.out.hg HB.out.size)⟩

theorem ints_two (w : World) (x y : Int) (t : TypeId) : IntsAt (w.alloc (.cells #[.int .i64 x, .int .i64 y] t)) (.slice (some ⟨w.heap.size, 0, none⟩) 2 2) [x, y] := by
  refine ⟨_, 2, rfl, by simp, by unfold maxLen; omega, .inr ⟨w.heap.size, 0, rfl, fun i z hz => ?_⟩⟩
  have hi : i < 2 := by
    have := (List.getElem?_eq_some_iff.1 hz).1
    simpa using this
  rw [cell_of_row _ w.heap.size (0 + i) _ t (0, 0) (heap_alloc_new w _)]
  rcases (show i = 0 ∨ i = 1 by omega) with rfl | rfl <;> simp at hz <;> subst hz <;> rfl

set_option maxHeartbeats 1000000 in
theorem spaceNews_walk (n : Int) (w : World) (A : Nat → Addr) (hsent : Sents w A) :
    Calls Tryd.prog 3 #[.int .i64 n] w fun e w' => e = .returned (.bool true) ∧ Below w.heap.size w w' := by
  have HN := Lib.hid hsent
  clear hsent
  by_cases hn : n < 8 ∨ 256 < n
  · go_enter Tryd.func3, Tryd.ntmps3
    go_wp2_with (first | (go_at_call 9; refine (new_bad n hn _ A HN.out).mono ?_; rintro e w1 ⟨⟨E, rfl, he⟩, hb⟩) | (go_at_call 10; refine (tells09_any (HN.out.below hb) _ 2 _ he 2 rfl).mono ?_; rintro e w3 ⟨rfl, rfl⟩) | (go_at_call 11; refine (awake_any _).mono ?_; rintro e w3 ⟨rfl, hb3⟩))
    all_goals first | (go_ret; exact ⟨rfl, below_step hb hb3⟩) | (exfalso; simp_all; omega)
  · obtain ⟨m, rfl⟩ : ∃ m : Nat, n = m := ⟨n.toNat, by omega⟩
    have h8 : 8 ≤ m := by omega
    have h256 : m ≤ 256 := by omega
    clear hn
    go_enter Tryd.func3, Tryd.ntmps3
    go_wp2_with (go_at_call 9; refine (new_ok m h8 h256 _).mono ?_; rintro e w1 ⟨⟨p, g, rfl, hs⟩, hb⟩)
    have HS := Lib.hid hs
    have HB := Lib.hid hb
    clear hs hb
    go_wp2_with (first | (go_at_call 12; refine (free_is HS.out _ (freeOf_fresh0 m (by omega))).mono ?_; rintro e w3 ⟨rfl, rfl⟩) | (go_at_call 14; refine (used_any HS.out).mono ?_; rw [usedOf_fresh0 m (by omega)]; rintro e w4 ⟨⟨v, rfl, hv⟩, hb4⟩) | (go_at_call 13; refine (sameInts_any _ _ [0, 1] [0, 1] _ (hv.ints.below ((Below.refl _ _).alloc (Nat.le_refl _) _)) (ints_two _ _ _ _)).mono ?_; rintro e w5 ⟨rfl, hb5⟩) | (go_at_call 11; refine (awake_any _).mono ?_; rintro e w6 ⟨rfl, hb6⟩))
    go_ret
    exact ⟨rfl, below_step (below_step (below_step HB.out hb4) ((Below.refl _ _).alloc (Nat.le_refl _) _)) (below_step hb5 hb6)⟩

set_option maxHeartbeats 1000000 in
theorem spaceNil_walk (id : Int) (w : World) (A : Nat → Addr) (hsent : Sents w A) :
    Calls Tryd.prog 8 #[.int .i64 id] w fun e w' => e = .returned (.bool true) ∧ Below w.heap.size w w' := by
  have HN := Lib.hid hsent
  clear hsent
  go_enter Tryd.func8, Tryd.ntmps8
  go_wp2_with (first
    | (go_at_call 22; refine (commit_nil _).mono ?_; rintro e w0 ⟨⟨v, rfl⟩, rfl⟩)
    | (go_at_call 24; refine (roll_nil _).mono ?_; rintro e w0 ⟨⟨v, rfl⟩, rfl⟩)
    | (go_at_call 19; refine (take_nil _ A HN.out).mono ?_; rintro e w1 ⟨E, rfl, he, hb⟩)
    | (go_at_call 18; refine (give_nil _ _ A (HN.out.below hb)).mono ?_; rintro e w2 ⟨⟨E2, pg2, rfl, he2⟩, hb2⟩)
    | (go_at_call 26; refine (mark_nil _ _ A ((HN.out.below hb).below hb2)).mono ?_; rintro e w3 ⟨⟨E3, pg3, rfl, he3⟩, hb3⟩)
    | (go_at_call 10; first
        | (refine (tells09_any (((HN.out.below hb).below hb2).below hb3) _ 7 _ he3 7 rfl).mono ?_; rintro e w4 ⟨rfl, rfl⟩)
        | (refine (tells09_any ((HN.out.below hb).below hb2) _ 7 _ he2 7 rfl).mono ?_; rintro e w4 ⟨rfl, rfl⟩)
        | (refine (tells09_any (HN.out.below hb) _ 7 _ he 7 rfl).mono ?_; rintro e w4 ⟨rfl, rfl⟩))
    | (go_at_call 17; refine (fresh_nil _ _).mono ?_; rintro e w4 ⟨rfl, rfl⟩)
    | (go_at_call 12; refine (free_nil _).mono ?_; rintro e w4 ⟨rfl, rfl⟩)
    | (go_at_call 14; refine (used_nil _).mono ?_; rintro e w4 ⟨rfl, rfl⟩)
    | (go_at_call 11; refine (awake_any _).mono ?_; rintro e w6 ⟨rfl, hb6⟩))
  go_ret
  exact ⟨rfl, below_step (below_step (below_step hb hb2) hb3) hb6⟩
end Go.Proofs.YtlkpdehajkffaaaDoor
