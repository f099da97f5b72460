/- what the bound of the second form gives: how long a slice of bytes or a string is -/
import Derived.Test.YtnaepddnbnciaaaDoorOpen
namespace Go.Proofs.YtnaepddnbnciaaaDoor.bulks

theorem one_le {H : Type} (d : DataW H) : 1 ≤ Rows.uptoBulk d := by
  cases d with
  | lit l => cases l <;> simp [Rows.uptoBulk]
  | nil => simp [Rows.uptoBulk]
  | ptr d => simp [Rows.uptoBulk]
  | slice elems spare => simp [Rows.uptoBulk]
  | agg parts => simp [Rows.uptoBulk]
  | iface t d => simp [Rows.uptoBulk]
  | map entries => simp [Rows.uptoBulk]
  | held h => simp [Rows.uptoBulk]
theorem part_le {H : Type} {d : DataW H} {l : List (DataW H)} (h : d ∈ l) : Rows.uptoBulk d ≤ Rows.uptoBulkAll l := by
  induction l with
  | nil => cases h
  | cons x r ih =>
    simp only [Rows.uptoBulkAll]
    cases List.mem_cons.1 h with
    | inl e => subst e; omega
    | inr e => have := ih e; omega
theorem length_le {H : Type} (l : List (DataW H)) : l.length ≤ Rows.uptoBulkAll l := by
  induction l with
  | nil => simp [Rows.uptoBulkAll]
  | cons x r ih => have := one_le x; simp only [Rows.uptoBulkAll, List.length_cons]; omega
theorem bound {H : Type} {l : List (DataW H)} (hk : Rows.uptoSmall H l = true) : Rows.uptoBulkAll l ≤ 1048576 := of_decide_eq_true hk
theorem bytes_small {H : Type} {ds : List (DataW H)} (hk : Rows.uptoSmall H ds = true) {d : DataW H} (hd : d ∈ ds) {l : List UInt8}
    (h : (l = []) ∨ ∃ elems spare, d = .slice elems spare ∧ l.length = elems.length) : l.length ≤ 1048576 := by
  rcases h with rfl | ⟨elems, spare, rfl, hl⟩
  · simp
  · have h1 := part_le hd
    have h2 := bound hk
    have h3 := length_le elems
    simp only [Rows.uptoBulk] at h1
    omega
theorem string_small {H : Type} {ds : List (DataW H)} (hk : Rows.uptoSmall H ds = true) {s : ByteArray} (hd : DataW.lit (.string s.data.toList) ∈ ds) : s.size ≤ 1048576 := by
  have h1 := part_le hd
  have h2 := bound hk
  simp only [Rows.uptoBulk, Array.length_toList] at h1
  have : s.size = s.data.size := rfl
  omega
end Go.Proofs.YtnaepddnbnciaaaDoor.bulks
