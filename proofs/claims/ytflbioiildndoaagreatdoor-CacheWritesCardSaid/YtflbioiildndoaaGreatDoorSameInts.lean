/- the walk of SameInts -/
import Derived.Test.YtflbioiildndoaaGreatDoorInts
namespace Go.Proofs.YtflbioiildndoaaGreatDoor
open Go.RowKit

theorem take_eq_succI {l m : List Int} {k : Nat} {x y : Int} (h : l.take k = m.take k) (hx : l[k]? = some x) (hy : m[k]? = some y) (e : x = y) : l.take (k + 1) = m.take (k + 1) := by
  rw [List.take_add_one, List.take_add_one, h, hx, hy, e]

theorem sameInts_any (v1 v2 : Value) (l1 l2 : List Int) (w : World) (h1 : IntsAt w v1 l1) (h2 : IntsAt w v2 l2) :
    Calls Tryz.prog 19 #[v1, v2] w fun e w' => e = .returned (.bool (l1 == l2)) ∧ Below w.heap.size w w' := by
  have H1 : Hid (IntsAt w v1 l1) := h1
  have H2 : Hid (IntsAt w v2 l2) := h2
  obtain ⟨a1, c1, rfl, hlc1, hcm1, hl1⟩ := h1
  obtain ⟨a2, c2, rfl, hlc2, hcm2, hl2⟩ := h2
  unfold maxLen at hcm1 hcm2
  have HL1 := Lib.hid hl1
  have HL2 := Lib.hid hl2
  clear hl1 hl2
  by_cases hne : l1.length = l2.length
  · have ht : ((l1.length : Int) != (l2.length : Int)) = false := by simp [hne]
    have HN := Lib.hid hne
    clear hne
    go_enter Tryz.func19, Tryz.ntmps19
    go_wp2
    go_loopw [5] (fun i wr => ∃ k : Nat, k ≤ l1.length ∧ i = .int .i64 k ∧ l1.take k = l2.take k ∧ Below w.heap.size w wr) (fun i _ => l1.length - (intOf i).toNat)
    case atStart => exact ⟨0, by omega, rfl, by simp, Below.refl _ _⟩
    case round =>
      obtain ⟨k, hk, rfl, htk, hbel⟩ := hrel
      have HT := Lib.hid htk
      clear htk
      by_cases hlt : k < l1.length
      · obtain ⟨x, hx⟩ := getElem?_some_of_lt hlt
        obtain ⟨y, hy⟩ := getElem?_some_of_lt (show k < l2.length by rw [← HN.out]; exact hlt)
        have hlt2 : (k : Int) < (l2.length : Int) := by have := HN.out; omega
        have hlt1 : (k : Int) < (l1.length : Int) := by omega
        rcases HL1.out with hn | ⟨b1, o1, rfl, hc1⟩
        · rw [hn] at hlt; simp at hlt
        rcases HL2.out with hn | ⟨b2, o2, rfl, hc2⟩
        · rw [hn] at hlt2; simp at hlt2; omega
        have hcx := Later.cell (w := wr) ((hbel.cell (World.block_lt_of_cell? w _ (hc1 k x hx))).trans (hc1 k x hx))
        have hcy := Later.cell (w := wr) ((hbel.cell (World.block_lt_of_cell? w _ (hc2 k y hy))).trans (hc2 k y hy))
        have HX := Lib.hid hx
        have HY := Lib.hid hy
        clear hx hy hc1 hc2
        go_wp2
        refine wp_region_later (by kernel_rfl) (by kernel_rfl) ?_
        repeat (first | go_big_quiet_step (fail) | quiet_step (fail))
        refine wpQuiet_nil ?_
        intro xw
        have hxb := xw.below
        go_wp2
        · have hne : (x != y) = true := by assumption
          go_ret
          refine ⟨ret_bool ?_, hbel.trans (hxb.mono hbel.size)⟩
          symm
          rw [beq_eq_false_iff_ne]
          intro e
          have h1 := HX.out
          rw [e, HY.out] at h1
          simp at h1
          subst h1
          simp at hne
        · have heq : (x != y) = false := by assumption
          have hxy : x = y := by simpa using heq
          go_roundw
          case rel => exact ⟨k + 1, by omega, by go_num, take_eq_succI HT.out HX.out HY.out hxy, hbel.trans (hxb.mono hbel.size)⟩
          case measure => simp [intOf]; omega
      · have hk2 : k = l1.length := by omega
        subst hk2
        go_wp2
        go_ret
        refine ⟨ret_bool ?_, hbel⟩
        symm
        rw [beq_iff_eq]
        have h1 := HT.out
        rwa [List.take_length, HN.out, List.take_length] at h1
  · have ht : ((l1.length : Int) != (l2.length : Int)) = true := by simp; omega
    go_enter Tryz.func19, Tryz.ntmps19
    go_wp2
    go_ret
    exact ⟨ret_bool (by symm; rw [beq_eq_false_iff_ne]; exact fun e => hne (by rw [e])), Below.refl _ _⟩
end Go.Proofs.YtflbioiildndoaaGreatDoor
