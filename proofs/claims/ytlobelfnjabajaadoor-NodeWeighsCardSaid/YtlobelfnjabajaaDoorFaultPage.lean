/- fault.Page: the page that a chain of faults names -/
import Derived.Test.YtlobelfnjabajaaDoorAs
import Derived.Test.YtlobelfnjabajaaDoorPageSame
namespace Go.Proofs.YtlobelfnjabajaaDoor
open Go.RowKit
set_option linter.unusedVariables false
set_option linter.unusedSimpArgs false

def errorTypeV : Value := .iface 171 (.agg #[.pointer (some ⟨10, 31, none⟩)])
/-- what errors.As at an error of a chain does, in terms of what was there -/
theorem as_seen_hit {w wr : World} (e : Addr) (r : Nat) (old : Value) (hb : Below r w wr) (hg : w.cell? ⟨9, 0, none⟩ = some errorTypeV) (hlt : 9 < r) (h0 : wr.cell? ⟨r, 0, none⟩ = some old) (hf : wr.frozen? ⟨r, 0, none⟩ = false) :
    Calls Tryd.prog 88 #[.iface 131 (.pointer (some e)), .iface 133 (.pointer (some ⟨r, 0, none⟩))] wr fun ev w' => ev = .returned (.bool true) ∧ Below r w w' ∧ w'.cell? ⟨r, 0, none⟩ = some (.pointer (some e)) ∧ w'.frozen? ⟨r, 0, none⟩ = false := by
  have hl : r < wr.heap.size := World.block_lt_of_cell? wr _ h0
  refine (as_hit e ⟨r, 0, none⟩ old wr ((hb.cell (p := ⟨9, 0, none⟩) hlt).trans hg) h0 hf).mono fun ev w' ⟨he, hw⟩ => ?_
  have h4 : ((((wr.alloc (.cells #[.pointer (some ⟨r, 0, none⟩)] 133)).alloc (.cells #[.pointer (some ⟨10, 133, none⟩), .pointer (some ⟨wr.heap.size, 0, none⟩), .int .u64 150] 155)).alloc (.cells #[.pointer (some ⟨10, 133, none⟩), .pointer (some ⟨wr.heap.size, 0, none⟩), .int .u64 150] 155)).alloc (.cells #[.pointer (some e)] 131)).cell? ⟨r, 0, none⟩ = some old := by
    rw [World.cell?_alloc_lt _ _ ⟨r, 0, none⟩ (by simp; omega), World.cell?_alloc_lt _ _ ⟨r, 0, none⟩ (by simp; omega), World.cell?_alloc_lt _ _ ⟨r, 0, none⟩ (by simp; omega), World.cell?_alloc_lt _ _ ⟨r, 0, none⟩ hl]; exact h0
  have f4 : ((((wr.alloc (.cells #[.pointer (some ⟨r, 0, none⟩)] 133)).alloc (.cells #[.pointer (some ⟨10, 133, none⟩), .pointer (some ⟨wr.heap.size, 0, none⟩), .int .u64 150] 155)).alloc (.cells #[.pointer (some ⟨10, 133, none⟩), .pointer (some ⟨wr.heap.size, 0, none⟩), .int .u64 150] 155)).alloc (.cells #[.pointer (some e)] 131)).frozen? ⟨r, 0, none⟩ = false := by
    rw [World.frozen?_alloc_old _ _ ⟨r, 0, none⟩ (by simp; omega), World.frozen?_alloc_old _ _ ⟨r, 0, none⟩ (by simp; omega), World.frozen?_alloc_old _ _ ⟨r, 0, none⟩ (by simp; omega), World.frozen?_alloc_old _ _ ⟨r, 0, none⟩ (Nat.ne_of_lt hl)]; exact hf
  have b4 : Below r w ((((wr.alloc (.cells #[.pointer (some ⟨r, 0, none⟩)] 133)).alloc (.cells #[.pointer (some ⟨10, 133, none⟩), .pointer (some ⟨wr.heap.size, 0, none⟩), .int .u64 150] 155)).alloc (.cells #[.pointer (some ⟨10, 133, none⟩), .pointer (some ⟨wr.heap.size, 0, none⟩), .int .u64 150] 155)).alloc (.cells #[.pointer (some e)] 131)) := hb.trans ((((Below.refl r wr).alloc (by omega) _).alloc (by simp; omega) _).alloc (by simp; omega) _ |>.alloc (by simp; omega) _)
  exact ⟨he, by rw [hw]; exact b4.setCell (Nat.le_refl _) _, by rw [hw]; exact World.cell?_setCell_same _ _ _ h4, by rw [hw, World.frozen?_setCell]; exact f4⟩
theorem as_seen_miss {w wr : World} (e : Addr) (r : Nat) (old : Value) (hb : Below r w wr) (hg : w.cell? ⟨9, 0, none⟩ = some errorTypeV) (hlt : 9 < r) (h0 : wr.cell? ⟨r, 0, none⟩ = some old) (hf : wr.frozen? ⟨r, 0, none⟩ = false) :
    Calls Tryd.prog 88 #[.iface 189 (.pointer (some e)), .iface 133 (.pointer (some ⟨r, 0, none⟩))] wr fun ev w' => ev = .returned (.bool false) ∧ Below r w w' := by
  have hl : r < wr.heap.size := World.block_lt_of_cell? wr _ h0
  refine (as_miss e ⟨r, 0, none⟩ old wr ((hb.cell (p := ⟨9, 0, none⟩) hlt).trans hg) h0 hf).mono fun ev w' ⟨he, hw⟩ => ?_
  subst hw
  exact ⟨he, hb.trans ((((Below.refl r wr).alloc (by omega) _).alloc (by simp; omega) _).alloc (by simp; omega) _)⟩

theorem pageOf_cons_neg {p : Int} {l : List Int} (h : ¬ 0 ≤ p) : pageOf (p :: l) = pageOf l := by
  rw [pageOf, if_neg h]
theorem pageOf_cons {p : Int} {l : List Int} (h : 0 ≤ p) : pageOf (p :: l) = p := by
  rw [pageOf, if_pos h]
set_option maxRecDepth 100000 in
set_option maxHeartbeats 2000000 in
theorem faultPage_any (l : List Int) (k : Nat) (v : Value) (w : World) (A : Nat → Addr) (B : Nat) (hg : w.cell? ⟨9, 0, none⟩ = some errorTypeV) (hE : ErrIs w A B l k v) (hlen : l.length ≤ 900) :
    Calls Tryd.prog 46 #[v] w fun e w' => e = .returned (.int .i64 (pageOf l)) ∧ Below w.heap.size w w' := by
  have hlt : 9 < w.heap.size := World.block_lt_of_cell? w _ hg
  have HG := Lib.hid hg
  have HE := Lib.hid hE
  clear hg hE
  go_enter Tryd.func46, Tryd.ntmps46
  go_wp2
  go_loopw [0, 4] (fun E i wr => ∃ (l' : List Int) (k' : Nat), l'.length ≤ l.length ∧ i = .int .i64 ((l.length : Int) - (l'.length : Int)) ∧ ErrIs w A B l' k' E ∧ pageOf l' = pageOf l ∧ Below w.heap.size w wr ∧ ∃ old, wr.cell? ⟨w.heap.size, 0, none⟩ = some old ∧ wr.frozen? ⟨w.heap.size, 0, none⟩ = false) (fun _ i _ => 1000 - (intOf i).toNat)
  case atStart => exact ⟨l, k, Nat.le_refl _, by simp, HE.out, rfl, by go_grown, .pointer none, by go_simp, by go_simp⟩
  case round =>
    obtain ⟨l', k', hl', rfl, hE', hp, hb, old, h0, hf⟩ := hrel
    have HP := Lib.hid hp
    have HB := Lib.hid hb
    clear hp
    rcases hE' with ⟨rfl, rfl, rfl⟩ | ⟨hk, hC⟩
    · go_wp2_with (go_at_call 88; refine (as_nil _ _).mono ?_; rintro e w2 ⟨rfl, rfl⟩)
      go_ret
      exact ⟨by rw [← HP.out]; rfl, HB.out⟩
    · cases l' with
      | nil =>
        obtain ⟨_, rfl⟩ := hC
        go_wp2_with (go_at_call 88; refine (as_seen_miss _ w.heap.size old HB.out HG.out hlt h0 hf).mono ?_; rintro e w2 ⟨rfl, hb2⟩)
        go_ret
        exact ⟨by rw [← HP.out]; rfl, hb2⟩
      | cons p l2 =>
        obtain ⟨b, op, E, rfl, _, hc, hC2⟩ := hC
        have HC := Lib.hid (show ErrIs w A B l2 k' E from .inr ⟨hk, hC2⟩)
        have hbl := heap_lt hc
        have c1 : w.cell? ⟨b, 1, none⟩ = some (.int .i64 p) := by simp [World.cell?, hc]
        have c2 : w.cell? ⟨b, 2, none⟩ = some E := by simp [World.cell?, hc]
        simp only [List.length_cons] at hl'
        clear hC2 hc
        by_cases hp0 : 0 ≤ p
        · go_wp2_with (go_at_call 88; (refine (as_seen_hit ⟨b, 0, none⟩ w.heap.size old HB.out HG.out hlt h0 hf).mono ?_); (rintro e w2 ⟨rfl, hb2, m2, f2⟩); (have d1 := (hb2.cell (p := ⟨b, 1, none⟩) hbl).trans c1); (have d2 := (hb2.cell (p := ⟨b, 2, none⟩) hbl).trans c2))
          go_ret
          exact ⟨by rw [← HP.out, pageOf_cons (by omega)]; rfl, hb2⟩
        · go_wp2_with (go_at_call 88; (refine (as_seen_hit ⟨b, 0, none⟩ w.heap.size old HB.out HG.out hlt h0 hf).mono ?_); (rintro e w2 ⟨rfl, hb2, m2, f2⟩); (have d1 := (hb2.cell (p := ⟨b, 1, none⟩) hbl).trans c1); (have d2 := (hb2.cell (p := ⟨b, 2, none⟩) hbl).trans c2))
          go_roundw
          case rel => exact ⟨l2, k', by omega, by go_num, HC.out, by rw [← HP.out, pageOf_cons_neg (by omega)], hb2, _, m2, f2⟩
          case measure => simp [intOf]; omega
end Go.Proofs.YtlobelfnjabajaaDoor
