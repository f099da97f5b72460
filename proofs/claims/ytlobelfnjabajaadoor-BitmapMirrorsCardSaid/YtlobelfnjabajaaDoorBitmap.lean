/- bitmaps: Check, Places, one -/
import Derived.Deep.DeepCutAuto
import Derived.Test.YtlobelfnjabajaaDoorBox
import Derived.Test.YtlobelfnjabajaaDoorBitmapMath
import Derived.Test.YtlobelfnjabajaaDoorSameInts
import Derived.Test.YtlobelfnjabajaaDoorPage
namespace Go.Proofs.YtlobelfnjabajaaDoor
open Go.RowKit
set_option linter.unusedVariables false
set_option linter.unusedSimpArgs false

/-- a map's value, its numbers in a row -/
def mapV (m : Bm.Map) (v : Value) : Value := .agg #[.int .u64 (m.gen : Int), .int .i64 m.blocks, v]
/-- is one of the first k numbers not as it must be? -/
def badN (blocks : Int) (l : List Int) : Nat → Bool
  | 0 => false
  | k + 1 => badN blocks l k || !decide (Bm.okAt blocks l k)
theorem badN_iff (blocks : Int) (l : List Int) : ∀ k, badN blocks l k = false ↔ ∀ i, i < k → Bm.okAt blocks l i
  | 0 => by simp [badN]
  | k + 1 => by
    rw [badN, Bool.or_eq_false_iff, badN_iff blocks l k, Bool.not_eq_false', decide_eq_true_iff]
    constructor
    · rintro ⟨h1, h2⟩ i hi
      rcases Nat.lt_succ_iff_lt_or_eq.1 hi with h | rfl
      · exact h1 i h
      · exact h2
    · exact fun h => ⟨fun i hi => h i (by omega), h k (by omega)⟩
theorem right_ways2 (m : Bm.Map) : (m.blocks < 8 ∧ ¬ Bm.Right m) ∨ (8 ≤ m.blocks ∧ 256 < m.blocks ∧ ¬ Bm.Right m) ∨ (8 ≤ m.blocks ∧ m.blocks ≤ 256 ∧ m.used.length < 6 ∧ ¬ Bm.Right m) ∨
    (8 ≤ m.blocks ∧ m.blocks ≤ 256 ∧ 6 ≤ m.used.length ∧ m.blocks < (m.used.length : Int) ∧ ¬ Bm.Right m) ∨
    (8 ≤ m.blocks ∧ m.blocks ≤ 256 ∧ 6 ≤ m.used.length ∧ (m.used.length : Int) ≤ m.blocks ∧ (Bm.Right m ↔ badN m.blocks m.used m.used.length = false)) := by
  have e : Bm.Right m ↔ 8 ≤ m.blocks ∧ m.blocks ≤ 256 ∧ 6 ≤ m.used.length ∧ (m.used.length : Int) ≤ m.blocks ∧ badN m.blocks m.used m.used.length = false := by
    rw [badN_iff]; rfl
  rw [e]
  generalize badN m.blocks m.used m.used.length = q
  by_cases h1 : m.blocks < 8
  · left; omega
  · right
    by_cases h2 : 256 < m.blocks
    · left; omega
    · right
      by_cases h3 : m.used.length < 6
      · left; omega
      · right
        by_cases h4 : m.blocks < (m.used.length : Int)
        · left; omega
        · right
          refine ⟨by omega, by omega, by omega, by omega, ?_⟩
          constructor
          · exact fun h => h.2.2.2.2
          · exact fun h => ⟨by omega, by omega, by omega, by omega, h⟩
/-- the error of a check: no error, or one of code 1 -/
def checkErr (m : Bm.Map) : List Int × Nat := if Bm.Right m then ([], 0) else ([-1], 1)
theorem check_ways (m : Bm.Map) : (m.blocks < 8 ∧ checkErr m = ([-1], 1)) ∨ (8 ≤ m.blocks ∧ 256 < m.blocks ∧ checkErr m = ([-1], 1)) ∨ (8 ≤ m.blocks ∧ m.blocks ≤ 256 ∧ m.used.length < 6 ∧ checkErr m = ([-1], 1)) ∨
    (8 ≤ m.blocks ∧ m.blocks ≤ 256 ∧ 6 ≤ m.used.length ∧ m.blocks < (m.used.length : Int) ∧ checkErr m = ([-1], 1)) ∨
    (8 ≤ m.blocks ∧ m.blocks ≤ 256 ∧ 6 ≤ m.used.length ∧ (m.used.length : Int) ≤ m.blocks ∧ checkErr m = if badN m.blocks m.used m.used.length = true then ([-1], 1) else ([], 0)) := by
  unfold checkErr
  rcases right_ways2 m with ⟨h1, h⟩ | ⟨h1, h2, h⟩ | ⟨h1, h2, h3, h⟩ | ⟨h1, h2, h3, h4, h⟩ | ⟨h1, h2, h3, h4, h⟩
  · exact .inl ⟨h1, if_neg h⟩
  · exact .inr (.inl ⟨h1, h2, if_neg h⟩)
  · exact .inr (.inr (.inl ⟨h1, h2, h3, if_neg h⟩))
  · exact .inr (.inr (.inr (.inl ⟨h1, h2, h3, h4, if_neg h⟩)))
  · refine .inr (.inr (.inr (.inr ⟨h1, h2, h3, h4, ?_⟩)))
    cases hq : badN m.blocks m.used m.used.length
    · rw [if_pos (h.2 hq)]; rfl
    · rw [if_neg (fun hr => by rw [h.1 hr] at hq; cases hq)]; rfl
set_option maxRecDepth 100000 in
set_option maxHeartbeats 2000000 in
theorem mapCheck_any {S : Nat → Prop} [Has S 1] (m : Bm.Map) (a0 : Option Addr) (c0 : Nat) (w : World) (A : Nat → Addr) (hs : SentsOn S w A) (hu : IntsAt w (.slice a0 m.used.length c0) m.used) :
    Calls Tryd.prog 41 #[.agg #[.int .u64 (m.gen : Int), .int .i64 m.blocks, .slice a0 m.used.length c0]] w fun e w' => IsFault A w.heap.size (checkErr m).1 (checkErr m).2 e w' ∧ Below w.heap.size w w' := by
  have hul : m.used.length ≤ 9223372036854775807 := by
    obtain ⟨a', c', e, q1, q2, _⟩ := hu
    unfold maxLen at q2
    omega
  have g1 : w.cell? ⟨0, 0, none⟩ = some (.iface 189 (.pointer (some (A 1)))) := hs.cell 1 (by decide) (by decide)
  have l1 := World.block_lt_of_cell? w _ g1
  simp only at l1
  have HS := Lib.hid hs
  have HU := Lib.hid hu
  clear hs hu
  have HW := check_ways m
  generalize hX : checkErr m = X at *
  have HX := Lib.hid hX
  clear hX
  obtain ⟨gen, blocks, used⟩ := m
  simp only at *
  rcases HW with ⟨h1, rfl⟩ | ⟨h1, h2, rfl⟩ | ⟨h1, h2, h3, rfl⟩ | ⟨h1, h2, h3, h4, rfl⟩ | ⟨h1, h2, h3, h4, hq⟩
  iterate 4
    go_enter Tryd.func41, Tryd.ntmps41
    go_wp2_with (go_at_call 55; refine (faultNew_any _ 1 _ _ A _ (sent_err 1 (by decide) (by decide)) (by decide) (Nat.le_refl _)).mono ?_; rintro e w' ⟨⟨v, rfl, hv⟩, hb⟩)
    go_ret
    exact ⟨⟨_, rfl, hv.mono (by simp)⟩, (show Below w.heap.size w _ by go_grown).trans (hb.mono (by simp))⟩
  have HQ := Lib.hid hq
  clear hq
  have d1 : decide (blocks < 8) = false := by simp; omega
  have d2 : decide (256 < blocks) = false := by simp; omega
  have d3 : decide ((used.length : Int) < 6) = false := by simp; omega
  have d4 : decide (blocks < (used.length : Int)) = false := by simp; omega
  go_enter Tryd.func41, Tryd.ntmps41
  go_upto_region 4 with fail
  refine wp_name fun W hW => ?_
  have hB := (show BoxAt W w.heap.size [.int .u64 (gen : Int), .int .i64 blocks, .slice a0 used.length c0] by rw [hW]; exact BoxAt.new _ _ _)
  have hbW : Below w.heap.size w W := by rw [hW]; go_grown
  clear hW
  have HB := Lib.hid hB
  go_wp2_with fail
  go_loopw [3, 33] (fun b i wr => ∃ k : Nat, k ≤ used.length ∧ i = .int .i64 k ∧ b = .bool (badN blocks used k) ∧ BoxAt wr w.heap.size [.int .u64 (gen : Int), .int .i64 blocks, .slice a0 used.length c0] ∧ Below w.heap.size w wr) (fun _ i _ => used.length - (intOf i).toNat)
  case atStart => exact ⟨0, by omega, rfl, rfl, hB, hbW⟩
  case round =>
    obtain ⟨k, hk, rfl, rfl, hbx, hbr⟩ := hrel
    have HBX := Lib.hid hbx
    have HBR := Lib.hid hbr
    obtain ⟨m0, m1, m2⟩ := hbx.three
    by_cases hlt : k < used.length
    · obtain ⟨x, hx⟩ := getElem?_some_of_lt hlt
      have hax := Bm.at_of hx
      obtain ⟨a', c', e, q1, q2, q3⟩ := HU.out
      obtain ⟨rfl, -, rfl⟩ : a0 = a' ∧ True ∧ c0 = c' := by injection e with e1 e2 e3; exact ⟨e1, trivial, e3⟩
      rcases q3 with hn | ⟨b1, o1, rfl, hc1⟩
      · rw [hn] at hlt; simp at hlt
      have hcx : wr.cell? ⟨b1, o1 + k, none⟩ = some (.int .i64 x) := (hbr.cell (World.block_lt_of_cell? w _ (hc1 k x hx))).trans (hc1 k x hx)
      have hlt1 : (k : Int) < (used.length : Int) := by omega
      have hkn : badN blocks used (k + 1) = (badN blocks used k || !decide (Bm.okAt blocks used k)) := rfl
      have HKN := Lib.hid hkn
      have HC1 := Lib.hid hc1
      clear hkn hc1 e q1 q2
      have ways : (k < 6 ∧ x ≠ (k : Int) ∧ badN blocks used (k + 1) = true) ∨ ((6 ≤ k ∨ x = (k : Int)) ∧ x < 0 ∧ badN blocks used (k + 1) = true) ∨ ((6 ≤ k ∨ x = (k : Int)) ∧ 0 ≤ x ∧ blocks ≤ x ∧ badN blocks used (k + 1) = true) ∨
          (k = 0 ∧ x = (k : Int) ∧ 0 ≤ x ∧ x < blocks ∧ badN blocks used (k + 1) = badN blocks used k) ∨
          ((6 ≤ k ∨ x = (k : Int)) ∧ 0 ≤ x ∧ x < blocks ∧ 0 < k ∧ x ≤ Bm.at_ used (k - 1) ∧ badN blocks used (k + 1) = true) ∨
          ((6 ≤ k ∨ x = (k : Int)) ∧ 0 ≤ x ∧ x < blocks ∧ 0 < k ∧ Bm.at_ used (k - 1) < x ∧ badN blocks used (k + 1) = badN blocks used k) := by
        rw [HKN.out]
        by_cases hok : Bm.okAt blocks used k
        · have h := hok
          unfold Bm.okAt at h
          rw [hax] at h
          rw [decide_eq_true hok]
          simp only [Bool.not_true, Bool.or_false]
          obtain ⟨e1, e2, e3, e4⟩ := h
          by_cases h0 : k = 0
          · exact .inr (.inr (.inr (.inl ⟨h0, e1 (by omega), e2, e3, trivial⟩)))
          · exact .inr (.inr (.inr (.inr (.inr ⟨by omega, e2, e3, by omega, e4 (by omega), trivial⟩))))
        · rw [decide_eq_false hok]
          simp only [Bool.not_false, Bool.or_true]
          unfold Bm.okAt at hok
          rw [hax] at hok
          generalize badN blocks used k = bk
          generalize Bm.at_ used (k - 1) = y at *
          by_cases c1 : k < 6 ∧ x ≠ (k : Int)
          · exact .inl ⟨c1.1, c1.2, trivial⟩
          by_cases c2 : x < 0
          · exact .inr (.inl ⟨by omega, c2, trivial⟩)
          by_cases c3 : blocks ≤ x
          · exact .inr (.inr (.inl ⟨by omega, by omega, c3, trivial⟩))
          refine .inr (.inr (.inr (.inr (.inl ⟨by omega, by omega, by omega, ?_, ?_, trivial⟩))))
          · false_or_by_contra
            exact hok ⟨by omega, by omega, by omega, by omega⟩
          · false_or_by_contra
            exact hok ⟨by omega, by omega, by omega, by omega⟩
      generalize hbk : badN blocks used k = bk at *
      have HBK := Lib.hid hbk
      clear hbk
      rcases ways with ⟨e1, e2, e3⟩ | ⟨e1, e2, e3⟩ | ⟨e1, e2, e4, e3⟩ | ⟨e1, e2, e4, e5, e3⟩ | ⟨e1, e2, e4, e5, e6, e3⟩ | ⟨e1, e2, e4, e5, e6, e3⟩
      · have HE := Lib.hid e3
        clear e3
        go_wp2_with fail
        all_goals
          go_roundw
          case rel => exact ⟨k + 1, by omega, by go_num, by rw [HE.out], HBX.out, HBR.out⟩
          case measure => simp [intOf]; omega
      · have HE := Lib.hid e3
        clear e3
        go_wp2_with fail
        all_goals
          go_roundw
          case rel => exact ⟨k + 1, by omega, by go_num, by rw [HE.out], HBX.out, HBR.out⟩
          case measure => simp [intOf]; omega
      · have HE := Lib.hid e3
        clear e3
        go_wp2_with fail
        all_goals
          go_roundw
          case rel => exact ⟨k + 1, by omega, by go_num, by rw [HE.out], HBX.out, HBR.out⟩
          case measure => simp [intOf]; omega
      · have HE := Lib.hid e3
        clear e3
        subst e1
        have hcx0 : wr.cell? ⟨b1, o1, none⟩ = some (.int .i64 x) := hcx
        go_wp2_with fail
        all_goals
          go_roundw
          case rel => exact ⟨0 + 1, by omega, by go_num, by rw [HE.out], HBX.out, HBR.out⟩
          case measure => simp [intOf]; omega
      · have HE := Lib.hid e3
        clear e3
        have hcy : wr.cell? ⟨b1, o1 + (k - 1), none⟩ = some (.int .i64 (Bm.at_ used (k - 1))) := (hbr.cell (World.block_lt_of_cell? w _ (HC1.out (k - 1) _ (Bm.at_get (by omega))))).trans (HC1.out (k - 1) _ (Bm.at_get (by omega)))
        generalize Bm.at_ used (k - 1) = y at *
        go_wp2_with fail
        all_goals
          go_roundw
          case rel => exact ⟨k + 1, by omega, by go_num, by rw [HE.out], HBX.out, HBR.out⟩
          case measure => simp [intOf]; omega
      · have HE := Lib.hid e3
        clear e3
        have hcy : wr.cell? ⟨b1, o1 + (k - 1), none⟩ = some (.int .i64 (Bm.at_ used (k - 1))) := (hbr.cell (World.block_lt_of_cell? w _ (HC1.out (k - 1) _ (Bm.at_get (by omega))))).trans (HC1.out (k - 1) _ (Bm.at_get (by omega)))
        generalize Bm.at_ used (k - 1) = y at *
        go_wp2_with fail
        all_goals
          go_roundw
          case rel => exact ⟨k + 1, by omega, by go_num, by rw [HE.out], HBX.out, HBR.out⟩
          case measure => simp [intOf]; omega
    · have hkk : k = used.length := by omega
      subst hkk
      cases hbk : badN blocks used used.length
      · go_wp2_with fail
        go_ret
        exact ⟨⟨_, rfl, by rw [HQ.out, hbk]; exact ErrIs.nil _ _ _⟩, HBR.out⟩
      · have g2 := (HBR.out.cell (p := ⟨0, 0, none⟩) l1).trans g1
        go_wp2_with (go_at_call 55; refine (faultNew_any _ 1 _ _ A _ (sent_err 1 (by decide) (by decide)) (by decide) (Nat.le_refl _)).mono ?_; rintro e w' ⟨⟨v, rfl, hv⟩, hb⟩)
        go_ret
        exact ⟨⟨_, rfl, by rw [HQ.out, hbk]; exact hv.mono (by have := HBR.out.size; simp; omega)⟩, (HBR.out).trans (hb.mono (by have := HBR.out.size; simp; omega))⟩
end Go.Proofs.YtlobelfnjabajaaDoor
