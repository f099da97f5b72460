/- pages: the document's Check, put, Seal -/
import Derived.Test.YtlobelfnjabajaaDoorPageSame
namespace Go.Proofs.YtlobelfnjabajaaDoor
open Go.RowKit
set_option linter.unusedVariables false
set_option linter.unusedSimpArgs false

set_option maxRecDepth 100000 in
set_option maxHeartbeats 2000000 in
theorem refCheck_any (p : Pg.Page) (a : Option Addr) (c : Nat) (size : Int) (w : World) (hsz : -9223372036854775808 ≤ size ∧ size ≤ 9223372036854775807) (hn : p.body.length ≤ 9223372036854775807) :
    Calls Tryd.prog 120 #[.agg #[.int .i64 p.kind, .int .i64 p.id, .int .u64 (p.gen : Int), .slice a p.body.length c], .int .i64 size] w fun e w' => e = .returned (.int .i64 (Pg.checkC p size : Nat)) ∧ Below w.heap.size w w' := by
  obtain ⟨kind, id, gen, body⟩ := p
  simp only at *
  have hcase : (size < 256 ∧ Pg.checkC ⟨kind, id, gen, body⟩ size = 2) ∨ (256 ≤ size ∧ 1024 < size ∧ Pg.checkC ⟨kind, id, gen, body⟩ size = 2) ∨
      ((256 ≤ size ∧ size ≤ 1024) ∧ ((kind < 1 ∧ Pg.checkC ⟨kind, id, gen, body⟩ size = 1) ∨ (1 ≤ kind ∧ 5 < kind ∧ Pg.checkC ⟨kind, id, gen, body⟩ size = 1) ∨ (1 ≤ kind ∧ kind ≤ 5 ∧ id < 0 ∧ Pg.checkC ⟨kind, id, gen, body⟩ size = 1) ∨
      (1 ≤ kind ∧ kind ≤ 5 ∧ 0 ≤ id ∧ 255 < id ∧ Pg.checkC ⟨kind, id, gen, body⟩ size = 1) ∨ (1 ≤ kind ∧ kind ≤ 5 ∧ 0 ≤ id ∧ id ≤ 255 ∧ size - 24 < (body.length : Int) ∧ Pg.checkC ⟨kind, id, gen, body⟩ size = 1) ∨ (1 ≤ kind ∧ kind ≤ 5 ∧ 0 ≤ id ∧ id ≤ 255 ∧ (body.length : Int) ≤ size - 24 ∧ Pg.checkC ⟨kind, id, gen, body⟩ size = 0))) := by
    unfold Pg.checkC Pg.sized
    by_cases h1 : size < 256
    · left; exact ⟨h1, by rw [if_pos (by simp; omega)]⟩
    by_cases h2 : 1024 < size
    · right; left; exact ⟨by omega, h2, by rw [if_pos (by simp; omega)]⟩
    right; right
    refine ⟨by omega, ?_⟩
    rw [if_neg (by simp; omega)]
    simp only
    by_cases h3 : kind < 1
    · left; exact ⟨h3, by rw [if_pos (by omega)]⟩
    by_cases h4 : 5 < kind
    · right; left; exact ⟨by omega, h4, by rw [if_pos (by omega)]⟩
    by_cases h5 : id < 0
    · right; right; left; exact ⟨by omega, by omega, h5, by rw [if_pos (by omega)]⟩
    by_cases h6 : 255 < id
    · right; right; right; left; exact ⟨by omega, by omega, by omega, h6, by rw [if_pos (by omega)]⟩
    by_cases h7 : size - 24 < (body.length : Int)
    · right; right; right; right; left; exact ⟨by omega, by omega, by omega, by omega, h7, by rw [if_pos (by omega)]⟩
    · right; right; right; right; right; exact ⟨by omega, by omega, by omega, by omega, by omega, by rw [if_neg (by omega)]⟩
  generalize Pg.checkC ⟨kind, id, gen, body⟩ size = K at *
  rcases hcase with ⟨h1, rfl⟩ | ⟨h1, h2, rfl⟩ | ⟨⟨h1, h2⟩, ⟨h3, rfl⟩ | ⟨h3, h4, rfl⟩ | ⟨h3, h4, h5, rfl⟩ | ⟨h3, h4, h5, h6, rfl⟩ | ⟨h3, h4, h5, h6, h7, rfl⟩ | ⟨h3, h4, h5, h6, h7, rfl⟩⟩
  all_goals
    go_enter Tryd.func120, Tryd.ntmps120
    go_wp2
    go_ret
    exact ⟨rfl, by go_grown⟩

theorem refPut_is (v : Value) (l m : List UInt8) (n x : Nat) (N X : Int) (w : World) (hN : N = (n : Int)) (hX : X = (x : Int)) (hm : l ++ Fld.le x n = m) (hb : BytesAt w v l) (hx : Fld.right (x : Int) = true) (hn : n < 256 ^ x) (hn64 : n < 18446744073709551616) (hlen : l.length ≤ 140737488351232) :
    Calls Tryd.prog 104 #[v, .int .u64 N, .int .i64 X] w fun e w' => (∃ a c, e = .returned (.slice a m.length c) ∧ Own w' w.heap.size (.slice a m.length c) m) ∧ Below w.heap.size w w' := by
  subst hN hX
  have hp := refPut_ok v l n x w hb hx hn hn64 hlen
  rw [hm] at hp
  have HP := Lib.hid hp
  clear hb hp hm
  go_enter Tryd.func104, Tryd.ntmps104
  go_wp2_with (go_at_call 81; (refine HP.out.mono ?_); (rintro e w2 ⟨hg, hb2⟩); (obtain ⟨a, c, rfl, ho⟩ := hg.seen))
  go_ret
  exact ⟨⟨a, c, rfl, ho⟩, hb2⟩
end Go.Proofs.YtlobelfnjabajaaDoor
