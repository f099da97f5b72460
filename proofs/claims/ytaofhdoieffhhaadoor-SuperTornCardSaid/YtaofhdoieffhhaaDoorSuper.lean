/- superblocks: block.Right, super.Check, super.Place, and the document's -/
import Derived.Test.YtaofhdoieffhhaaDoorBox
import Derived.Test.YtaofhdoieffhhaaDoorSuperMath
import Derived.Test.YtaofhdoieffhhaaDoorPage
namespace Go.Proofs.YtaofhdoieffhhaaDoor
open Go.RowKit
set_option linter.unusedVariables false
set_option linter.unusedSimpArgs false

theorem rightG_ways (b s : Int) : (b < 8 ∧ Su.rightG b s = false) ∨ (8 ≤ b ∧ 256 < b ∧ Su.rightG b s = false) ∨ (8 ≤ b ∧ b ≤ 256 ∧ s < 256 ∧ Su.rightG b s = false) ∨ (8 ≤ b ∧ b ≤ 256 ∧ 256 ≤ s ∧ 1024 < s ∧ Su.rightG b s = false) ∨ (8 ≤ b ∧ b ≤ 256 ∧ 256 ≤ s ∧ s ≤ 1024 ∧ Su.rightG b s = true) := by
  cases h : Su.rightG b s with
  | true => have := Su.rightG_iff.1 h; simp; omega
  | false =>
    have : ¬ (8 ≤ b ∧ b ≤ 256 ∧ 256 ≤ s ∧ s ≤ 1024) := fun h2 => by rw [Su.rightG_iff.2 h2] at h; cases h
    simp
    omega
theorem blockRight_any (b s : Int) (w : World) :
    Calls Tryd.prog 56 #[.agg #[.int .i64 b, .int .i64 s]] w fun e w' => e = .returned (.bool (Su.rightG b s)) ∧ Below w.heap.size w w' := by
  have HW := rightG_ways b s
  generalize Su.rightG b s = R at *
  rcases HW with ⟨h1, rfl⟩ | ⟨h1, h2, rfl⟩ | ⟨h1, h2, h3, rfl⟩ | ⟨h1, h2, h3, h4, rfl⟩ | ⟨h1, h2, h3, h4, rfl⟩
  all_goals
    go_enter Tryd.func56, Tryd.ntmps56
    go_wp2
    go_ret
    exact ⟨by first | rfl | exact ret_bool (by simp; omega), by go_grown⟩
theorem ref04Right_any (b s : Int) (w : World) :
    Calls Tryd.prog 53 #[.agg #[.int .i64 b, .int .i64 s]] w fun e w' => e = .returned (.bool (Su.rightG b s)) ∧ Below w.heap.size w w' := by
  have HW := rightG_ways b s
  generalize Su.rightG b s = R at *
  rcases HW with ⟨h1, rfl⟩ | ⟨h1, h2, rfl⟩ | ⟨h1, h2, h3, rfl⟩ | ⟨h1, h2, h3, h4, rfl⟩ | ⟨h1, h2, h3, h4, rfl⟩
  all_goals
    go_enter Tryd.func53, Tryd.ntmps53
    go_wp2
    go_ret
    exact ⟨by first | rfl | exact ret_bool (by simp; omega), by go_grown⟩
/-- a superblock's value -/
def supV (s : Su.Sup) : Value := .agg #[.int .u64 (s.gen : Int), .int .i64 s.blocks, .int .i64 s.size, .int .i64 s.root, .int .i64 s.keys]
/-- the ways through a check -/
theorem right_ways (s : Su.Sup) : (Su.rightG s.blocks s.size = false ∧ Su.right s = false) ∨ (Su.rightG s.blocks s.size = true ∧ s.keys < 0 ∧ Su.right s = false) ∨ (Su.rightG s.blocks s.size = true ∧ 0 ≤ s.keys ∧ 2147483647 < s.keys ∧ Su.right s = false) ∨
    (Su.rightG s.blocks s.size = true ∧ 0 ≤ s.keys ∧ s.keys ≤ 2147483647 ∧ s.root = 0 ∧ s.keys = 0 ∧ Su.right s = true) ∨
    (Su.rightG s.blocks s.size = true ∧ 0 ≤ s.keys ∧ s.keys ≤ 2147483647 ∧ s.root = 0 ∧ s.keys ≠ 0 ∧ Su.right s = false) ∨
    (Su.rightG s.blocks s.size = true ∧ 0 ≤ s.keys ∧ s.keys ≤ 2147483647 ∧ s.root ≠ 0 ∧ s.root < 2 ∧ Su.right s = false) ∨
    (Su.rightG s.blocks s.size = true ∧ 0 ≤ s.keys ∧ s.keys ≤ 2147483647 ∧ s.root ≠ 0 ∧ 2 ≤ s.root ∧ s.blocks ≤ s.root ∧ Su.right s = false) ∨
    (Su.rightG s.blocks s.size = true ∧ 0 ≤ s.keys ∧ s.keys ≤ 2147483647 ∧ s.root ≠ 0 ∧ 2 ≤ s.root ∧ s.root < s.blocks ∧ Su.right s = true) := by
  unfold Su.right
  cases Su.rightG s.blocks s.size <;> by_cases h1 : s.keys < 0 <;> by_cases h2 : 2147483647 < s.keys <;> by_cases h3 : s.root = 0 <;> by_cases h4 : s.keys = 0 <;> by_cases h5 : s.root < 2 <;> by_cases h6 : s.root < s.blocks <;> simp [h1, h2, h3, h4, h5, h6] <;> omega

theorem blockRight_is (b s : Int) (R : Bool) (hR : Su.rightG b s = R) (w : World) :
    Calls Tryd.prog 56 #[.agg #[.int .i64 b, .int .i64 s]] w fun e w' => e = .returned (.bool R) ∧ Below w.heap.size w w' := by subst hR; exact blockRight_any b s w
theorem ref04Right_is (b s : Int) (R : Bool) (hR : Su.rightG b s = R) (w : World) :
    Calls Tryd.prog 53 #[.agg #[.int .i64 b, .int .i64 s]] w fun e w' => e = .returned (.bool R) ∧ Below w.heap.size w w' := by subst hR; exact ref04Right_any b s w
set_option maxRecDepth 100000 in
set_option maxHeartbeats 1000000 in
theorem refSupRight_any (s : Su.Sup) (w : World) :
    Calls Tryd.prog 25 #[.agg #[.int .u64 (s.gen : Int), .int .i64 s.blocks, .int .i64 s.size, .int .i64 s.root, .int .i64 s.keys]] w fun e w' => e = .returned (.bool (Su.right s)) ∧ Below w.heap.size w w' := by
  have HW := right_ways s
  obtain ⟨gen, blocks, size, root, keys⟩ := s
  simp only at *
  generalize hR : Su.right ⟨gen, blocks, size, root, keys⟩ = R at *
  clear hR
  generalize hG : Su.rightG blocks size = G at *
  have HG := Lib.hid hG
  clear hG
  rcases HW with ⟨rfl, rfl⟩ | ⟨rfl, h1, rfl⟩ | ⟨rfl, h1, h2, rfl⟩ | ⟨rfl, h1, h2, rfl, rfl, rfl⟩ | ⟨rfl, h1, h2, rfl, h3, rfl⟩ | ⟨rfl, h1, h2, h3, h4, rfl⟩ | ⟨rfl, h1, h2, h3, h4, h5, rfl⟩ | ⟨rfl, h1, h2, h3, h4, h5, rfl⟩
  all_goals
    go_enter Tryd.func25, Tryd.ntmps25
    go_wp2_with (go_at_call 53; (refine (ref04Right_is _ _ _ HG.out _).mono ?_); (rintro e w1 ⟨rfl, hb1⟩); (have hbw : Below w.heap.size w w1 := (show Below w.heap.size w _ by go_grown).trans (hb1.mono (by simp))); (obtain ⟨m0, m1, m2, m3, m4⟩ := ((BoxAt.new w [.int .u64 (gen : Int), .int .i64 blocks, .int .i64 size, .int .i64 _, .int .i64 _] 48).below hb1).five))
    go_ret
    exact ⟨by first | rfl | exact ret_bool (by simp; omega), hbw⟩
end Go.Proofs.YtaofhdoieffhhaaDoor
