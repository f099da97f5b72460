/- bitmaps: the document's in, Right, First, bit -/
import Derived.Test.YtlobelfnjabajaaDoorBitmap2
namespace Go.Proofs.YtlobelfnjabajaaDoor
open Go.RowKit
set_option linter.unusedVariables false
set_option linter.unusedSimpArgs false

theorem not_mem_take_succ {l : List Int} {k : Nat} {x n : Int} (h : ¬ n ∈ l.take k) (hx : l[k]? = some x) (hne : x ≠ n) : ¬ n ∈ l.take (k + 1) := by
  rw [List.take_add_one, hx]
  intro hm
  rcases List.mem_append.1 hm with h1 | h1
  · exact h h1
  · simp at h1; exact hne h1.symm
set_option maxRecDepth 100000 in
theorem refIn_any (v : Value) (l : List Int) (n : Int) (w : World) (h : IntsAt w v l) :
    Calls Tryd.prog 69 #[v, .int .i64 n] w fun e w' => e = .returned (.bool (decide (n ∈ l))) ∧ w = w' := by
  obtain ⟨a1, c1, rfl, hlc1, hcm1, hl1⟩ := h
  unfold maxLen at hcm1
  have HL1 := Lib.hid hl1
  clear hl1
  go_enter Tryd.func69, Tryd.ntmps69
  go_wp2
  go_loop [5] (fun i => ∃ k : Nat, k ≤ l.length ∧ i = .int .i64 k ∧ ¬ n ∈ l.take k) (fun i => l.length - (intOf i).toNat)
  case atStart => exact ⟨0, by omega, rfl, by simp⟩
  case round =>
    obtain ⟨k, hk, rfl, hnm⟩ := hrel
    have HN := Lib.hid hnm
    clear hnm
    by_cases hlt : k < l.length
    · obtain ⟨x, hx⟩ := getElem?_some_of_lt hlt
      rcases HL1.out with hn | ⟨b1, o1, rfl, hc1⟩
      · rw [hn] at hlt; simp at hlt
      have hcx := hc1 k x hx
      have HX := Lib.hid hx
      have hlt1 : (k : Int) < (l.length : Int) := by omega
      clear hx hc1
      by_cases hxn : x = n
      · have hb : (x == n) = true := by simpa using hxn
        have HM := Lib.hid (show decide (n ∈ l) = true by simp; rw [← hxn]; exact List.mem_of_getElem? HX.out)
        clear hxn
        go_wp2
        go_ret
        exact ⟨ret_bool HM.out.symm, rfl⟩
      · have hb : (x == n) = false := by simpa using hxn
        have HNE := Lib.hid hxn
        clear hxn
        go_wp2
        go_round
        case rel => exact ⟨k + 1, by omega, by go_num, not_mem_take_succ HN.out HX.out HNE.out⟩
        case measure => simp [intOf]; omega
    · have hkk : k = l.length := by omega
      subst hkk
      have HM := Lib.hid (show decide (n ∈ l) = false by have := HN.out; rw [List.take_length] at this; simpa using this)
      go_wp2
      go_ret
      exact ⟨ret_bool HM.out.symm, rfl⟩
theorem refFirst_is (gen : Nat) (F : Int) (hF : Bm.first gen = F) (hg : gen < 18446744073709551616) (w : World) :
    Calls Tryd.prog 42 #[.int .u64 (gen : Int)] w fun e w' => e = .returned (.int .i64 F) ∧ w = w' := by
  have hm : gen % 2 < 2 := Nat.mod_lt _ (by decide)
  have hf : F = 2 + 2 * ((gen % 2 : Nat) : Int) := by rw [← hF]; unfold Bm.first; omega
  have hmi : (gen : Int) % 2 = ((gen % 2 : Nat) : Int) := by omega
  have hmt : (gen : Int).tmod 2 = ((gen % 2 : Nat) : Int) := by rw [Int.tmod_eq_emod_of_nonneg (by omega)]; exact hmi
  generalize gen % 2 = m at *
  have hm1 : (m : Int) ≤ 1 := by omega
  have hw : IntKind.u64.wrap (m : Int) = (m : Int) := by rw [IntKind.wrap_u64]; omega
  clear hF hg
  go_enter Tryd.func42, Tryd.ntmps42
  go_wp2
  go_ret
  refine ⟨?_, rfl⟩
  rw [hf]
  first | rfl | (congr 2; omega)

/-- a bit of bytes -/
def bitOf (b : List UInt8) (n : Nat) : Bool := match b[n / 8]? with | some x => x.toNat.testBit (n % 8) | none => false
theorem bitOf_drop (b : List UInt8) (n : Nat) : bitOf (b.drop 8) n = Bm.bitAt b n := by
  unfold bitOf Bm.bitAt
  rw [List.getElem?_drop]
  cases b[8 + n / 8]? <;> rfl
set_option maxRecDepth 100000 in
set_option maxHeartbeats 1000000 in
theorem refBit_any (v : Value) (l : List UInt8) (n : Nat) (B : Bool) (hB : bitOf l n = B) (w : World) (h : BytesAt w v l) (hn : n ≤ 1000) :
    Calls Tryd.prog 87 #[v, .int .i64 (n : Int)] w fun e w' => e = .returned (.bool B) ∧ w = w' := by
  obtain ⟨a1, c1, rfl, hlc1, hcm1, hl1⟩ := h
  unfold maxLen at hcm1
  obtain ⟨q, hq⟩ : ∃ q : Nat, n / 8 = q := ⟨_, rfl⟩
  obtain ⟨r, hr⟩ : ∃ r : Nat, n % 8 = r := ⟨_, rfl⟩
  have hqi : (n : Int) / 8 = (q : Int) := by omega
  have hri : (n : Int) % 8 = (r : Int) := by omega
  have hrt : (n : Int).tmod 8 = (r : Int) := by rw [Int.tmod_eq_emod_of_nonneg (by omega)]; exact hri
  have hqt : (n : Int).tdiv 8 = (q : Int) := by rw [Int.tdiv_eq_ediv_of_nonneg (by omega)]; exact hqi
  have hwq : IntKind.i64.wrap (q : Int) = (q : Int) := by rw [IntKind.wrap_i64]; omega
  have hwr : IntKind.i64.wrap (r : Int) = (r : Int) := by rw [IntKind.wrap_i64]; omega
  have hwr2 : IntKind.u64.wrap (r : Int) = (r : Int) := by rw [IntKind.wrap_u64]; omega
  have hrb : r < 8 := by omega
  have hqb : q ≤ 125 := by omega
  unfold bitOf at hB
  rw [hq, hr] at hB
  clear hq hr
  by_cases hlt : q < l.length
  · obtain ⟨x, hx⟩ := getElem?_some_of_lt hlt
    rcases hl1 with hnl | ⟨b1, o1, rfl, hc1⟩
    · rw [hnl] at hlt; simp at hlt
    have hcx := hc1 q x hx
    rw [hx] at hB
    simp only at hB
    have hxl := x.toNat_lt
    generalize x.toNat = X at *
    obtain ⟨Pw, hP⟩ : ∃ P : Nat, 2 ^ r = P := ⟨_, rfl⟩
    have hP8 : Pw < 256 := by rw [← hP]; exact Nat.pow_lt_pow_right (by decide) hrb
    have hPp : 0 < Pw := by rw [← hP]; exact Nat.pow_pos (by decide)
    have hPi : (2 : Int) ^ r % 256 = (Pw : Int) := by rw [show (2 : Int) ^ r = ((2 ^ r : Nat) : Int) by simp, hP]; omega
    obtain ⟨Z, hZ⟩ : ∃ Z : Nat, X / Pw = Z := ⟨_, rfl⟩
    have hZi : (X : Int) / (Pw : Int) = (Z : Int) := by rw [← hZ]; simp
    have hZt : (X : Int).tdiv (Pw : Int) = (Z : Int) := by rw [Int.tdiv_eq_ediv_of_nonneg (by omega)]; exact hZi
    have hZ8 : Z < 256 := by rw [← hZ]; exact Nat.lt_of_le_of_lt (Nat.div_le_self _ _) hxl
    have hZw : IntKind.u8.wrap (Z : Int) = (Z : Int) := by rw [IntKind.wrap_u8]; omega
    obtain ⟨R, hR⟩ : ∃ R : Nat, Z % 2 = R := ⟨_, rfl⟩
    have hRi : (Z : Int) % 2 = (R : Int) := by omega
    have hRt : (Z : Int).tmod 2 = (R : Int) := by rw [Int.tmod_eq_emod_of_nonneg (by omega)]; exact hRi
    have hR2 : R < 2 := by omega
    have hRw : IntKind.u8.wrap (R : Int) = (R : Int) := by rw [IntKind.wrap_u8]; omega
    have hB2 : ((R : Int) == 1) = B := by
      rw [← hB, Nat.testBit_eq_decide_div_mod_eq, hP, hZ, hR, Bool.eq_iff_iff]
      simp
      omega
    have HB := Lib.hid hB
    have hP0 : ((Pw : Int) == 0) = false := by simp; omega
    have hlt1 : (q : Int) < (l.length : Int) := by omega
    clear hB hx hc1 hP hZ hR
    go_enter Tryd.func87, Tryd.ntmps87
    go_wp2_with fail
    go_ret
    exact ⟨rfl, rfl⟩
  · rw [List.getElem?_eq_none (by omega)] at hB
    simp only at hB
    subst hB
    have hlt1 : (l.length : Int) ≤ (q : Int) := by omega
    go_enter Tryd.func87, Tryd.ntmps87
    go_wp2
    go_ret
    exact ⟨rfl, rfl⟩

/-- the ways through one number of the document's Right -/
theorem ord_ways (blocks : Int) (used : List Int) (k : Nat) (x : Int) (hax : Bm.at_ used k = x) : ((x < 0) ∧ ¬ Bm.ordAt blocks used k) ∨ (0 ≤ x ∧ blocks ≤ x ∧ ¬ Bm.ordAt blocks used k) ∨ (k = 0 ∧ 0 ≤ x ∧ x < blocks ∧ Bm.ordAt blocks used k) ∨
    (0 < k ∧ 0 ≤ x ∧ x < blocks ∧ x ≤ Bm.at_ used (k - 1) ∧ ¬ Bm.ordAt blocks used k) ∨ (0 < k ∧ 0 ≤ x ∧ x < blocks ∧ Bm.at_ used (k - 1) < x ∧ Bm.ordAt blocks used k) := by
  have e : Bm.ordAt blocks used k ↔ (0 ≤ x ∧ x < blocks ∧ (0 < k → Bm.at_ used (k - 1) < x)) := by unfold Bm.ordAt; rw [hax]
  rw [e]
  generalize Bm.at_ used (k - 1) = y
  by_cases h1 : x < 0
  · left; omega
  by_cases h2 : blocks ≤ x
  · right; left; omega
  by_cases h3 : k = 0
  · right; right; left; omega
  by_cases h4 : x ≤ y
  · right; right; right; left; omega
  · right; right; right; right; omega
theorem refRight_no {m : Bm.Map} (h : ¬ Bm.RefRight m) : decide (Bm.Right m) = false := by
  have : ¬ Bm.Right m := fun h2 => h ((Bm.right_iff m).1 h2)
  simpa using this
theorem refRight_yes {m : Bm.Map} (h : Bm.RefRight m) : decide (Bm.Right m) = true := by
  have := (Bm.right_iff m).2 h
  simpa using this
theorem refIn_is (v : Value) (l : List Int) (n : Int) (B : Bool) (hB : decide (n ∈ l) = B) (w : World) (h : IntsAt w v l) :
    Calls Tryd.prog 69 #[v, .int .i64 n] w fun e w' => e = .returned (.bool B) ∧ w = w' := by subst hB; exact refIn_any v l n w h
set_option maxRecDepth 100000 in
set_option maxHeartbeats 4000000 in
theorem refMapRight_any (m : Bm.Map) (a0 : Option Addr) (c0 : Nat) (w : World) (hu : IntsAt w (.slice a0 m.used.length c0) m.used) :
    Calls Tryd.prog 28 #[.agg #[.int .u64 (m.gen : Int), .int .i64 m.blocks, .slice a0 m.used.length c0]] w fun e w' => e = .returned (.bool (decide (Bm.Right m))) ∧ Below w.heap.size w w' := by
  have hul : m.used.length ≤ 9223372036854775807 := by
    obtain ⟨a', c', e, q1, q2, _⟩ := hu
    unfold maxLen at q2
    omega
  have HU := Lib.hid hu
  clear hu
  by_cases h1 : m.blocks < 8
  · have HD := Lib.hid (refRight_no (m := m) (fun h => by have := h.1; omega))
    generalize decide (Bm.Right m) = R at *
    obtain ⟨gen, blocks, used⟩ := m
    simp only at *
    go_enter Tryd.func28, Tryd.ntmps28
    go_wp2
    go_ret
    exact ⟨ret_bool HD.out.symm, by go_grown⟩
  by_cases h2 : 256 < m.blocks
  · have HD := Lib.hid (refRight_no (m := m) (fun h => by have := h.2.1; omega))
    generalize decide (Bm.Right m) = R at *
    obtain ⟨gen, blocks, used⟩ := m
    simp only at *
    go_enter Tryd.func28, Tryd.ntmps28
    go_wp2
    go_ret
    exact ⟨ret_bool HD.out.symm, by go_grown⟩
  by_cases h3 : 256 < m.used.length
  · have HD := Lib.hid (refRight_no (m := m) (fun h => by have := h.2.2.1; omega))
    generalize decide (Bm.Right m) = R at *
    obtain ⟨gen, blocks, used⟩ := m
    simp only at *
    have h3i : 256 < (used.length : Int) := by omega
    go_enter Tryd.func28, Tryd.ntmps28
    go_wp2
    go_ret
    exact ⟨ret_bool HD.out.symm, by go_grown⟩
  have hno : ∀ k, k < m.used.length → ¬ Bm.ordAt m.blocks m.used k → decide (Bm.Right m) = false := fun k hk h => refRight_no (fun h2 => h (h2.2.2.2.1 k hk))
  have hnm : ∀ k : Nat, k < 6 → ¬ (k : Int) ∈ m.used → decide (Bm.Right m) = false := fun k hk h => refRight_no (fun h2 => h (h2.2.2.2.2 k hk))
  have hyes : (∀ k, k < m.used.length → Bm.ordAt m.blocks m.used k) → (∀ k : Nat, k < 6 → (k : Int) ∈ m.used) → decide (Bm.Right m) = true := fun ha hb => refRight_yes ⟨by omega, by omega, by omega, ha, hb⟩
  generalize decide (Bm.Right m) = R at *
  obtain ⟨gen, blocks, used⟩ := m
  simp only at *
  have HNO := Lib.hid hno
  have HNM := Lib.hid hnm
  have HYES := Lib.hid hyes
  have h3i : (used.length : Int) ≤ 256 := by omega
  clear hno hnm hyes
  go_enter Tryd.func28, Tryd.ntmps28
  go_upto_region 3 with fail
  refine wp_name fun W hW => ?_
  have HX := Lib.hid (show BoxAt W w.heap.size [.int .u64 (gen : Int), .int .i64 blocks, .slice a0 used.length c0] by rw [hW]; exact BoxAt.new w [_, _, _] _)
  have HBW := Lib.hid (show Below w.heap.size w W by rw [hW]; go_grown)
  clear hW
  go_wp2_with fail
  go_loopw [3] (fun i wr => ∃ k : Nat, k ≤ used.length ∧ i = .int .i64 k ∧ (∀ j, j < k → Bm.ordAt blocks used j) ∧ BoxAt wr w.heap.size [.int .u64 (gen : Int), .int .i64 blocks, .slice a0 used.length c0] ∧ Below w.heap.size w wr) (fun i _ => used.length - (intOf i).toNat)
  case atStart => exact ⟨0, by omega, rfl, fun j hj => absurd hj (Nat.not_lt_zero _), HX.out, HBW.out⟩
  case round =>
    obtain ⟨k, hk, rfl, hor, hbx, hbr⟩ := hrel
    have HBX := Lib.hid hbx
    have HBR := Lib.hid hbr
    have HOR := Lib.hid hor
    obtain ⟨m0, m1, m2⟩ := hbx.three
    clear hor
    by_cases hlt : k < used.length
    · obtain ⟨x, hx⟩ := getElem?_some_of_lt hlt
      have hax := Bm.at_of hx
      obtain ⟨a', c', e, q1, q2, q3⟩ := HU.out
      obtain ⟨rfl, rfl⟩ : a0 = a' ∧ c0 = c' := by injection e with e1 e2 e3; exact ⟨e1, e3⟩
      rcases q3 with hn | ⟨b1, o1, rfl, hc1⟩
      · rw [hn] at hlt; simp at hlt
      have hcx : wr.cell? ⟨b1, o1 + k, none⟩ = some (.int .i64 x) := (hbr.cell (World.block_lt_of_cell? w _ (hc1 k x hx))).trans (hc1 k x hx)
      have hlt1 : (k : Int) < (used.length : Int) := by omega
      have HC1 := Lib.hid hc1
      have hw := ord_ways blocks used k x hax
      have n1 := Later.cell m1
      have n2 := Later.cell m2
      have nx := Later.cell hcx
      clear hc1 e q1 q2 hx
      have hkb : decide (0 < (k : Int)) = decide (0 < k) := by simp
      rcases hw with ⟨g1, g2⟩ | ⟨g1, g2, g3⟩ | ⟨g0, g1, g2, g3⟩ | ⟨g0, g1, g2, g3, g4⟩ | ⟨g0, g1, g2, g3, g4⟩
      · have HD := Lib.hid (HNO.out k hlt g2)
        have d1 : decide (x < 0) = true := by simpa using g1
        clear g2 g1 hkb
        go_wp2_with fail
        refine wp_region_later (by kernel_rfl) (by kernel_rfl) ?_
        repeat (first | go_big_quiet_step (fail) | quiet_step (fail))
        refine wpQuiet_nil ?_
        intro xw
        have hxb := xw.below
        go_wp2_with fail
        go_ret
        exact ⟨ret_bool HD.out.symm, HBR.out.trans (hxb.mono HBR.out.size)⟩
      · have HD := Lib.hid (HNO.out k hlt g3)
        have d1 : decide (x < 0) = false := by simpa using g1
        have d2 : decide (blocks ≤ x) = true := by simpa using g2
        clear g3 g2 g1 hkb
        go_wp2_with fail
        refine wp_region_later (by kernel_rfl) (by kernel_rfl) ?_
        repeat (first | go_big_quiet_step (fail) | quiet_step (fail))
        refine wpQuiet_nil ?_
        intro xw
        have hxb := xw.below
        go_wp2_with fail
        go_ret
        exact ⟨ret_bool HD.out.symm, HBR.out.trans (hxb.mono HBR.out.size)⟩
      · have HG := Lib.hid g3
        have d1 : decide (x < 0) = false := by simpa using g1
        have d2 : decide (blocks ≤ x) = false := by simpa using g2
        have d3 : decide (0 < (k : Int)) = false := by rw [hkb]; simp [g0]
        have d3n : decide (0 < k) = false := by simp [g0]
        clear g3 g2 g1 g0 hkb
        go_wp2_with fail
        refine wp_region_later (by kernel_rfl) (by kernel_rfl) ?_
        repeat (first | go_big_quiet_step (fail) | quiet_step (fail))
        refine wpQuiet_nil ?_
        intro xw
        have hxb := xw.below
        go_wp2_with fail
        go_roundw
        case rel => exact ⟨k + 1, by omega, by go_num, fun j hj => by rcases Nat.lt_succ_iff_lt_or_eq.1 hj with h | rfl; exact HOR.out j h; exact HG.out, HBX.out.below hxb, HBR.out.trans (hxb.mono HBR.out.size)⟩
        case measure => simp [intOf]; omega
      · have HD := Lib.hid (HNO.out k hlt g4)
        have d1 : decide (x < 0) = false := by simpa using g1
        have d2 : decide (blocks ≤ x) = false := by simpa using g2
        have d3 : decide (0 < (k : Int)) = true := by rw [hkb]; simpa using g0
        have d3n : decide (0 < k) = true := by simpa using g0
        have hcy : wr.cell? ⟨b1, o1 + (k - 1), none⟩ = some (.int .i64 (Bm.at_ used (k - 1))) := (hbr.cell (World.block_lt_of_cell? w _ (HC1.out (k - 1) _ (Bm.at_get (by omega))))).trans (HC1.out (k - 1) _ (Bm.at_get (by omega)))
        generalize Bm.at_ used (k - 1) = y at *
        have ny := Later.cell hcy
        have d4 : decide (x ≤ y) = true := by simpa using g3
        clear g4 g3 g2 g1 hkb
        go_wp2_with fail
        refine wp_region_later (by kernel_rfl) (by kernel_rfl) ?_
        repeat (first | go_big_quiet_step (fail) | quiet_step (fail))
        refine wpQuiet_nil ?_
        intro xw
        have hxb := xw.below
        go_wp2_with fail
        go_ret
        exact ⟨ret_bool HD.out.symm, HBR.out.trans (hxb.mono HBR.out.size)⟩
      · have HG := Lib.hid g4
        have d1 : decide (x < 0) = false := by simpa using g1
        have d2 : decide (blocks ≤ x) = false := by simpa using g2
        have d3 : decide (0 < (k : Int)) = true := by rw [hkb]; simpa using g0
        have d3n : decide (0 < k) = true := by simpa using g0
        have hcy : wr.cell? ⟨b1, o1 + (k - 1), none⟩ = some (.int .i64 (Bm.at_ used (k - 1))) := (hbr.cell (World.block_lt_of_cell? w _ (HC1.out (k - 1) _ (Bm.at_get (by omega))))).trans (HC1.out (k - 1) _ (Bm.at_get (by omega)))
        generalize Bm.at_ used (k - 1) = y at *
        have ny := Later.cell hcy
        have d4 : decide (x ≤ y) = false := by simpa using g3
        clear g4 g3 g2 g1 hkb
        go_wp2_with fail
        refine wp_region_later (by kernel_rfl) (by kernel_rfl) ?_
        repeat (first | go_big_quiet_step (fail) | quiet_step (fail))
        refine wpQuiet_nil ?_
        intro xw
        have hxb := xw.below
        go_wp2_with fail
        go_roundw
        case rel => exact ⟨k + 1, by omega, by go_num, fun j hj => by rcases Nat.lt_succ_iff_lt_or_eq.1 hj with h | rfl; exact HOR.out j h; exact HG.out, HBX.out.below hxb, HBR.out.trans (hxb.mono HBR.out.size)⟩
        case measure => simp [intOf]; omega
    · have hkk : k = used.length := by omega
      subst hkk
      go_upto_region 8 with fail
      go_wp2_with fail
      go_loopw [4] (fun i w2 => ∃ k : Nat, k ≤ 6 ∧ i = .int .i64 k ∧ (∀ j : Nat, j < k → (j : Int) ∈ used) ∧ BoxAt w2 w.heap.size [.int .u64 (gen : Int), .int .i64 blocks, .slice a0 used.length c0] ∧ Below w.heap.size w w2) (fun i _ => 6 - (intOf i).toNat)
      case atStart => exact ⟨0, by omega, rfl, fun j hj => absurd hj (Nat.not_lt_zero _), HBX.out, HBR.out⟩
      case round =>
        obtain ⟨k, hk, rfl, hin, hb2, hbr2⟩ := hrel
        have HB2 := Lib.hid hb2
        have HBR2 := Lib.hid hbr2
        have HIN := Lib.hid hin
        clear m0 m1 m2 hin
        obtain ⟨m0, m1, m2⟩ := hb2.three
        by_cases hlt : k < 6
        · have hlt1 : (k : Int) < 6 := by omega
          by_cases hmem : (k : Int) ∈ used
          · have HI := Lib.hid (show decide ((k : Int) ∈ used) = true by simpa using hmem)
            have HMM := Lib.hid hmem
            clear hmem
            go_wp2_with (go_at_call 69; (refine (refIn_is _ used k _ HI.out _ (HU.out.below HBR2.out)).mono ?_); (rintro e w3 ⟨rfl, rfl⟩))
            go_roundw
            case rel => exact ⟨k + 1, by omega, by go_num, fun j hj => by rcases Nat.lt_succ_iff_lt_or_eq.1 hj with h | rfl; exact HIN.out j h; exact HMM.out, HB2.out, HBR2.out⟩
            case measure => simp [intOf]; omega
          · have HI := Lib.hid (show decide ((k : Int) ∈ used) = false by simpa using hmem)
            have HD := Lib.hid (HNM.out k hlt hmem)
            clear hmem
            go_wp2_with (go_at_call 69; (refine (refIn_is _ used k _ HI.out _ (HU.out.below HBR2.out)).mono ?_); (rintro e w3 ⟨rfl, rfl⟩))
            go_ret
            exact ⟨ret_bool HD.out.symm, HBR2.out⟩
        · have hk6 : k = 6 := by omega
          subst hk6
          have HD := Lib.hid (HYES.out HOR.out HIN.out)
          go_wp2_with fail
          go_ret
          exact ⟨ret_bool HD.out.symm, HBR2.out⟩
end Go.Proofs.YtlobelfnjabajaaDoor
