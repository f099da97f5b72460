/- the walk of tells, of layer 08's statements -/
import Derived.Test.YtflbioiildndoaaGreatDoorQ5
namespace Go.Proofs.YtflbioiildndoaaGreatDoor
open Go.RowKit

/-- an error of a code is told to be one -/
theorem tells08_any {w : World} {A : Nat → Addr} {B : Nat} (hs : Sents w A) (l : List Int) (k : Nat) (v : Value) (hc : ErrIs w A B l k v) (c : Int) (hk : c = (k : Int)) :
    Calls Tryz.prog 35 #[v, .int .i64 c] w fun e w' => e = .returned (.bool true) ∧ w = w' := by
  subst hk
  have HC := Lib.hid hc
  by_cases h0 : k = 0
  · subst h0
    obtain ⟨rfl, rfl⟩ := hc.isNil
    clear hc
    go_enter Tryz.func35, Tryz.ntmps35
    go_wp2_with (go_at_call 57; refine (Code_any hs [] 0 _ HC.out).mono ?_; rintro e w' ⟨rfl, rfl⟩)
    go_ret
    exact ⟨rfl, rfl⟩
  · obtain ⟨t, x, rfl⟩ := hc.iface h0
    clear hc
    have hn : ((k : Int) == 0) = false := by simp [h0]
    go_enter Tryz.func35, Tryz.ntmps35
    go_wp2_with (go_at_call 57; refine (Code_any hs l k _ HC.out).mono ?_; rintro e w' ⟨rfl, rfl⟩)
    go_ret
    exact ⟨rfl, rfl⟩
end Go.Proofs.YtflbioiildndoaaGreatDoor
