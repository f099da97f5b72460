/- pages: the walks of package page: sized, kind, Check -/
import Derived.Test.YtflbioiildndoaaDoorFieldNum
import Derived.Test.YtflbioiildndoaaDoorPageMath
import Derived.Test.YtflbioiildndoaaDoorCrc
import Derived.Test.YtflbioiildndoaaDoorCode
import Derived.Test.YtflbioiildndoaaDoorSame
import Derived.Test.YtflbioiildndoaaDoorMix
import Derived.Lib.AppendZerosOnto
namespace Go.Proofs.YtflbioiildndoaaDoor
open Go.RowKit
set_option linter.unusedVariables false
set_option linter.unusedSimpArgs false

theorem bcellB {w w1 : World} {B : Nat} (hb : Below B w w1) : (∀ b o, b < B → w1.cell? ⟨b, o, none⟩ = w.cell? ⟨b, o, none⟩) ∧ (∀ b o, b < B → w1.frozen? ⟨b, o, none⟩ = w.frozen? ⟨b, o, none⟩) :=
  ⟨fun b o h => hb.cell (p := ⟨b, o, none⟩) h, fun b o h => hb.frozen (p := ⟨b, o, none⟩) h⟩
theorem sized_any (size : Int) (w : World) :
    Calls Tryd.prog 86 #[.int .i64 size] w fun e w' => e = .returned (.bool (Pg.sized size)) ∧ w = w' := by
  have HF := Lib.hid (show Pg.sized size = (decide (256 ≤ size) && decide (size ≤ 1024)) from rfl)
  by_cases h : 256 ≤ size
  all_goals
    go_enter Tryd.func86, Tryd.ntmps86
    go_wp2
    go_ret
    exact ⟨ret_bool (by rw [HF.out]; first | (simp [h]; done) | (simp [h]; omega)), rfl⟩
def kindB (k : Int) : Bool := decide (1 ≤ k) && decide (k ≤ 5)
theorem kind_any (k : Int) (w : World) :
    Calls Tryd.prog 87 #[.int .i64 k] w fun e w' => e = .returned (.bool (kindB k)) ∧ w = w' := by
  by_cases h : 1 ≤ k ∧ k ≤ 5
  · rcases (show k = 1 ∨ k = 2 ∨ k = 3 ∨ k = 4 ∨ k = 5 by omega) with rfl | rfl | rfl | rfl | rfl
    all_goals
      go_enter Tryd.func87, Tryd.ntmps87
      go_wp2
      go_ret
      exact ⟨rfl, rfl⟩
  · have h1 : (k == 1) = false := by simp; omega
    have h2 : (k == 2) = false := by simp; omega
    have h3 : (k == 3) = false := by simp; omega
    have h4 : (k == 4) = false := by simp; omega
    have h5 : (k == 5) = false := by simp; omega
    have HF := Lib.hid (show kindB k = false by unfold kindB; simp; omega)
    clear h
    go_enter Tryd.func87, Tryd.ntmps87
    go_wp2
    go_ret
    exact ⟨ret_bool (by rw [HF.out]), rfl⟩
theorem sized_is (size : Int) (b : Bool) (h : Pg.sized size = b) (w : World) :
    Calls Tryd.prog 86 #[.int .i64 size] w fun e w' => e = .returned (.bool b) ∧ w = w' := by subst h; exact sized_any size w
theorem kind_is (k : Int) (b : Bool) (h : kindB k = b) (w : World) :
    Calls Tryd.prog 87 #[.int .i64 k] w fun e w' => e = .returned (.bool b) ∧ w = w' := by subst h; exact kind_any k w

/-- a page's value: its body lies in w -/
def pageV (p : Pg.Page) (sl : Value) : Value := .agg #[.int .i64 p.kind, .int .i64 p.id, .int .u64 (p.gen : Int), sl]
/-- an error of a code, through faults -/
def ToldErr (A : Nat → Addr) (B : Nat) (k : Nat) (e : Ending) (w' : World) : Prop := ∃ v l, e = .returned v ∧ ErrIs w' A B l k v

set_option maxHeartbeats 1000000 in
theorem check_any (p : Pg.Page) (a : Option Addr) (c : Nat) (size : Int) (w : World) (A : Nat → Addr) {S : Nat → Prop} [Has S 1] [Has S 2] [Has S 5] (hs : SentsOn S w A) (hsz : -9223372036854775808 ≤ size ∧ size ≤ 9223372036854775807) (hn : p.body.length ≤ 9223372036854775807) :
    Calls Tryd.prog 70 #[.agg #[.int .i64 p.kind, .int .i64 p.id, .int .u64 (p.gen : Int), .slice a p.body.length c], .int .i64 size] w fun e w' => ToldErr A w.heap.size (Pg.checkC p size) e w' ∧ Below w.heap.size w w' := by
  have g1 : w.cell? ⟨2, 0, none⟩ = some (.iface 171 (.pointer (some (A 1)))) := hs.cell 1 (by decide) (by decide)
  have g2 : w.cell? ⟨0, 0, none⟩ = some (.iface 171 (.pointer (some (A 2)))) := hs.cell 2 (by decide) (by decide)
  have l1 := World.block_lt_of_cell? w _ g1
  have l2 := World.block_lt_of_cell? w _ g2
  simp only at l1 l2
  have HS := Lib.hid hs
  clear hs
  obtain ⟨kind, id, gen, body⟩ := p
  simp only at *
  generalize hq : body.length = n at *
  by_cases hz : Pg.sized size = true
  · have hb : 256 ≤ size ∧ size ≤ 1024 := by unfold Pg.sized at hz; simpa using hz
    have HZ := Lib.hid hz
    by_cases hbad : kind < 1 ∨ 5 < kind ∨ id < 0 ∨ 255 < id ∨ size - 24 < (n : Int)
    · have HC : Hid (Pg.checkC ⟨kind, id, gen, body⟩ size = 1) := Lib.hid (by unfold Pg.checkC; rw [if_neg (by rw [hz]; decide), if_pos (by simp only [hq]; exact hbad)])
      have hcase : kindB kind = false ∨ (kindB kind = true ∧ id < 0) ∨ (kindB kind = true ∧ 0 ≤ id ∧ 256 ≤ id) ∨ (kindB kind = true ∧ 0 ≤ id ∧ id < 256 ∧ size - 24 < (n : Int)) := by
        cases hk : kindB kind with
        | false => exact .inl rfl
        | true =>
          have : 1 ≤ kind ∧ kind ≤ 5 := by unfold kindB at hk; simpa using hk
          by_cases h1 : id < 0
          · exact .inr (.inl ⟨rfl, h1⟩)
          by_cases h2 : 256 ≤ id
          · exact .inr (.inr (.inl ⟨rfl, by omega, h2⟩))
          · exact .inr (.inr (.inr ⟨rfl, by omega, by omega, by omega⟩))
      clear hbad hz hq
      rcases hcase with hk | ⟨hk, h1⟩ | ⟨hk, h1, h2⟩ | ⟨hk, h1, h2, h3⟩
      all_goals
        have HK := Lib.hid hk
        clear hk
        go_enter Tryd.func70, Tryd.ntmps70
        go_wp2_with (first
          | (go_at_call 86; refine (sized_is size true HZ.out _).mono ?_; rintro e w' ⟨rfl, rfl⟩)
          | (go_at_call 87; refine (kind_is kind _ HK.out _).mono ?_; rintro e w' ⟨rfl, rfl⟩)
          | (go_at_call 54; refine (faultNew_any _ 1 _ _ A _ (sent_err 1 (by decide) (by decide)) (by decide) (Nat.le_refl _)).mono ?_; rintro e w' ⟨⟨v, rfl, hv⟩, hb⟩))
        go_ret
        exact ⟨⟨_, [-1], rfl, by rw [HC.out]; exact hv.mono (by simp)⟩, (show Below w.heap.size w _ by go_grown).trans (hb.mono (by simp))⟩
    · have hk : kindB kind = true := by unfold kindB; simp; omega
      have HC : Hid (Pg.checkC ⟨kind, id, gen, body⟩ size = 0) := Lib.hid (by unfold Pg.checkC; rw [if_neg (by rw [hz]; decide), if_neg (by simp only [hq]; exact hbad)])
      have h1 : 0 ≤ id := by omega
      have h2 : id < 256 := by omega
      have h3 : (n : Int) ≤ size - 24 := by omega
      have HK := Lib.hid hk
      clear hbad hz hq hk
      go_enter Tryd.func70, Tryd.ntmps70
      go_wp2_with (first
        | (go_at_call 86; refine (sized_is size true HZ.out _).mono ?_; rintro e w' ⟨rfl, rfl⟩)
        | (go_at_call 87; refine (kind_is kind _ HK.out _).mono ?_; rintro e w' ⟨rfl, rfl⟩))
      go_ret
      exact ⟨⟨_, [], rfl, by rw [HC.out]; exact ErrIs.nil _ _ _⟩, by go_grown⟩
  · have hz0 : Pg.sized size = false := by simpa using hz
    have HZ := Lib.hid hz0
    have HC : Hid (Pg.checkC ⟨kind, id, gen, body⟩ size = 2) := Lib.hid (by unfold Pg.checkC; rw [if_pos hz0])
    clear hz hz0 hq
    go_enter Tryd.func70, Tryd.ntmps70
    go_wp2_with (first
      | (go_at_call 86; refine (sized_is size false HZ.out _).mono ?_; rintro e w' ⟨rfl, rfl⟩)
      | (go_at_call 54; refine (faultNew_any _ 2 _ _ A _ (sent_err 2 (by decide) (by decide)) (by decide) (Nat.le_refl _)).mono ?_; rintro e w' ⟨⟨v, rfl, hv⟩, hb⟩))
    go_ret
    exact ⟨⟨_, [-1], rfl, by rw [HC.out]; exact hv.mono (by simp)⟩, (show Below w.heap.size w _ by go_grown).trans (hb.mono (by simp))⟩
end Go.Proofs.YtflbioiildndoaaDoor
