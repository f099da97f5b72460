/- pages: the document's Check, put, Seal -/
import Derived.Test.YtflbioiildndoaaDoorPageSame
namespace Go.Proofs.YtflbioiildndoaaDoor
open Go.RowKit
set_option linter.unusedVariables false
set_option linter.unusedSimpArgs false

theorem refPut_is (v : Value) (l m : List UInt8) (n x : Nat) (N X : Int) (w : World) (hN : N = (n : Int)) (hX : X = (x : Int)) (hm : l ++ Fld.le x n = m) (hb : BytesAt w v l) (hx : Fld.right (x : Int) = true) (hn : n < 256 ^ x) (hn64 : n < 18446744073709551616) (hlen : l.length ≤ 140737488351232) :
    Calls Tryd.prog 84 #[v, .int .u64 N, .int .i64 X] w fun e w' => (∃ a c, e = .returned (.slice a m.length c) ∧ Own w' w.heap.size (.slice a m.length c) m) ∧ Below w.heap.size w w' := by
  subst hN hX
  have hp := refPut_ok v l n x w hb hx hn hn64 hlen
  rw [hm] at hp
  have HP := Lib.hid hp
  clear hb hp hm
  go_enter Tryd.func84, Tryd.ntmps84
  go_wp2_with (go_at_call 95; (refine HP.out.mono ?_); (rintro e w2 ⟨hg, hb2⟩); (obtain ⟨a, c, rfl, ho⟩ := hg.seen))
  go_ret
  exact ⟨⟨a, c, rfl, ho⟩, hb2⟩
end Go.Proofs.YtflbioiildndoaaDoor
