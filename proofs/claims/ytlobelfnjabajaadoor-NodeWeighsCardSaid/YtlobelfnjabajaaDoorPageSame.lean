/- pages: page.Same, and the document's -/
import Derived.Test.YtlobelfnjabajaaDoorPageOpen3
namespace Go.Proofs.YtlobelfnjabajaaDoor
open Go.RowKit
set_option linter.unusedVariables false
set_option linter.unusedSimpArgs false

def pageEq (p q : Pg.Page) : Bool := p.kind == q.kind && (p.id == q.id && ((p.gen : Int) == (q.gen : Int) && p.body == q.body))
theorem pageEq_self (p : Pg.Page) : pageEq p p = true := by simp [pageEq]
theorem pageEq_iff {p q : Pg.Page} : pageEq p q = true ↔ p = q := by
  obtain ⟨a, b, c, d⟩ := p
  obtain ⟨a2, b2, c2, d2⟩ := q
  simp [pageEq]
  omega
/-- two pages alike: the four ways through -/
theorem pageEq_ways (p q : Pg.Page) : ((p.kind == q.kind) = false ∧ pageEq p q = false) ∨ ((p.kind == q.kind) = true ∧ (p.id == q.id) = false ∧ pageEq p q = false) ∨
    ((p.kind == q.kind) = true ∧ (p.id == q.id) = true ∧ ((p.gen : Int) == (q.gen : Int)) = false ∧ pageEq p q = false) ∨
    ((p.kind == q.kind) = true ∧ (p.id == q.id) = true ∧ ((p.gen : Int) == (q.gen : Int)) = true ∧ pageEq p q = (p.body == q.body)) := by
  unfold pageEq
  cases p.kind == q.kind <;> cases p.id == q.id <;> cases ((p.gen : Int) == (q.gen : Int)) <;> simp

end Go.Proofs.YtlobelfnjabajaaDoor
