/- the walk of layer 2's awake -/
import Derived.Test.YtnaepddnbnciaaaCrc
import Derived.Test.YtnaepddnbnciaaaSame
import Derived.Lib.SlBytesConst
namespace Go.Proofs.Ytnaepddnbnciaaa
open Go.RowKit

/-- bytes that a literal lays in a block of its own -/
theorem bytes_lit (w : World) (l : List UInt8) (t : TypeId) (fz : Nat × Nat) (n : Nat) (hn : n = l.length) (h : l.length ≤ 1000) : BytesAt (w.alloc (.cells (l.map fun x => Value.int .u8 (x.toNat : Int)).toArray t fz)) (.slice (some ⟨w.heap.size, 0, none⟩) n n) l := by
  subst hn
  refine ⟨_, _, rfl, Nat.le_refl _, by unfold maxLen; omega, .inr ⟨w.heap.size, 0, rfl, fun i x hx => ?_⟩⟩
  rw [cell_of_row _ w.heap.size (0 + i) _ t fz (heap_alloc_new w _)]
  simp [hx]

theorem crcAwake_any (w : World) : Calls Try.prog 11 #[] w fun e w' => e = .returned (.bool true) ∧ Below w.heap.size w w' := by
  have hb := bytes_lit w [49, 50, 51, 52, 53, 54, 55, 56, 57] 5 (9, 10) 9 rfl (by decide)
  simp only [List.map_cons, List.map_nil] at hb
  have HB := Lib.hid hb
  clear hb
  have kc := fun (w : World) (C : Array Value) (n c : Nat) => Lib.run_convert_bytes_const (P := Try.prog) w 23 5 C n c Try.underlying23 Try.underlying5
  go_enter Try.func11, Try.ntmps11
  go_wp2_with (go_at_call 14; refine (sum_any _ _ _ HB.out).mono ?_; rintro e w' ⟨rfl, rfl⟩)
  go_ret
  exact ⟨ret_bool (by decide), by go_grown⟩
end Go.Proofs.Ytnaepddnbnciaaa
