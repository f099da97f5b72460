/- pages: page.Same, and the document's -/
import Derived.Test.YtflbioiildndoaaDoorPageOpen3
namespace Go.Proofs.YtflbioiildndoaaDoor
open Go.RowKit
set_option linter.unusedVariables false
set_option linter.unusedSimpArgs false

def pageEq (p q : Pg.Page) : Bool := p.kind == q.kind && (p.id == q.id && ((p.gen : Int) == (q.gen : Int) && p.body == q.body))
theorem pageEq_self (p : Pg.Page) : pageEq p p = true := by simp [pageEq]
theorem pageEq_iff {p q : Pg.Page} : pageEq p q = true ↔ p = q := by
  obtain ⟨a, b, c, d⟩ := p
  obtain ⟨a2, b2, c2, d2⟩ := q
  simp [pageEq]
  omega
/-- two pages alike: the four ways through -/
theorem pageEq_ways (p q : Pg.Page) : ((p.kind == q.kind) = false ∧ pageEq p q = false) ∨ ((p.kind == q.kind) = true ∧ (p.id == q.id) = false ∧ pageEq p q = false) ∨
    ((p.kind == q.kind) = true ∧ (p.id == q.id) = true ∧ ((p.gen : Int) == (q.gen : Int)) = false ∧ pageEq p q = false) ∨
    ((p.kind == q.kind) = true ∧ (p.id == q.id) = true ∧ ((p.gen : Int) == (q.gen : Int)) = true ∧ pageEq p q = (p.body == q.body)) := by
  unfold pageEq
  cases p.kind == q.kind <;> cases p.id == q.id <;> cases ((p.gen : Int) == (q.gen : Int)) <;> simp

set_option maxRecDepth 100000 in
set_option maxHeartbeats 2000000 in
theorem refSame_any (p q : Pg.Page) (s1 s2 : Value) (w : World) (h1 : BytesAt w s1 p.body) (h2 : BytesAt w s2 q.body) :
    Calls Tryd.prog 46 #[.agg #[.int .i64 p.kind, .int .i64 p.id, .int .u64 (p.gen : Int), s1], .agg #[.int .i64 q.kind, .int .i64 q.id, .int .u64 (q.gen : Int), s2]] w fun e w' => e = .returned (.bool (pageEq p q)) ∧ Below w.heap.size w w' := by
  have H1 := Lib.hid h1
  have H2 := Lib.hid h2
  have HW := pageEq_ways p q
  clear h1 h2
  obtain ⟨k1, i1, n1, b1⟩ := p
  obtain ⟨k2, i2, n2, b2⟩ := q
  simp only at *
  generalize hR : pageEq ⟨k1, i1, n1, b1⟩ ⟨k2, i2, n2, b2⟩ = R at *
  clear hR
  rcases HW with ⟨c1, rfl⟩ | ⟨c1, c2, rfl⟩ | ⟨c1, c2, c3, rfl⟩ | ⟨c1, c2, c3, rfl⟩
  all_goals
    go_enter Tryd.func46, Tryd.ntmps46
    go_wp2_with (go_at_call 35; (refine (same_any _ _ _ _ _ ((H1.out.alloc _).alloc _) ((H2.out.alloc _).alloc _)).mono ?_); (rintro e w4 ⟨rfl, hb4⟩); (have hbw4 : Below w.heap.size w w4 := (show Below w.heap.size w _ by go_grown).trans (hb4.mono (by simp; omega))))
    go_ret
    exact ⟨rfl, by go_grown⟩
end Go.Proofs.YtflbioiildndoaaDoor
