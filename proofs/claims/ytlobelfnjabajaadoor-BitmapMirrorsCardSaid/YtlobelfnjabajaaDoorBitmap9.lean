/- bitmaps: Same, and the document's; of, first -/
import Derived.Test.YtlobelfnjabajaaDoorBitmap6
namespace Go.Proofs.YtlobelfnjabajaaDoor
open Go.RowKit
set_option linter.unusedVariables false
set_option linter.unusedSimpArgs false

def mapEq (p q : Bm.Map) : Bool := ((p.gen : Int) == (q.gen : Int)) && (p.blocks == q.blocks && p.used == q.used)
theorem mapEq_self (p : Bm.Map) : mapEq p p = true := by simp [mapEq]
theorem mapEq_iff {p q : Bm.Map} : mapEq p q = true ↔ p = q := by
  obtain ⟨a, b, c⟩ := p
  obtain ⟨a2, b2, c2⟩ := q
  simp [mapEq]
  omega
theorem mapEq_ways (p q : Bm.Map) : (((p.gen : Int) == (q.gen : Int)) = false ∧ mapEq p q = false) ∨ (((p.gen : Int) == (q.gen : Int)) = true ∧ (p.blocks == q.blocks) = false ∧ mapEq p q = false) ∨
    (((p.gen : Int) == (q.gen : Int)) = true ∧ (p.blocks == q.blocks) = true ∧ mapEq p q = (p.used == q.used)) := by
  unfold mapEq
  cases ((p.gen : Int) == (q.gen : Int)) <;> cases p.blocks == q.blocks <;> simp
set_option maxRecDepth 100000 in
set_option maxHeartbeats 2000000 in
theorem refMapSame_any (p q : Bm.Map) (s1 s2 : Value) (w : World) (h1 : IntsAt w s1 p.used) (h2 : IntsAt w s2 q.used) :
    Calls Tryd.prog 47 #[.agg #[.int .u64 (p.gen : Int), .int .i64 p.blocks, s1], .agg #[.int .u64 (q.gen : Int), .int .i64 q.blocks, s2]] w fun e w' => e = .returned (.bool (mapEq p q)) ∧ Below w.heap.size w w' := by
  have H1 := Lib.hid h1
  have H2 := Lib.hid h2
  have HW := mapEq_ways p q
  obtain ⟨a1, c1, rfl, -, -⟩ := h1
  obtain ⟨a2, c2, rfl, -, -⟩ := h2
  obtain ⟨n1, k1, b1⟩ := p
  obtain ⟨n2, k2, b2⟩ := q
  simp only at *
  generalize hR : mapEq ⟨n1, k1, b1⟩ ⟨n2, k2, b2⟩ = R at *
  clear hR
  rcases HW with ⟨d1, rfl⟩ | ⟨d1, d2, rfl⟩ | ⟨d1, d2, rfl⟩
  all_goals
    go_enter Tryd.func47, Tryd.ntmps47
    go_wp2_with (go_at_call 36; (refine (sameInts_any _ _ _ _ _ ((H1.out.alloc _).alloc _) ((H2.out.alloc _).alloc _)).mono ?_); (rintro e w4 ⟨rfl, hb4⟩); (have hbw4 : Below w.heap.size w w4 := (show Below w.heap.size w _ by go_grown).trans (hb4.mono (by simp; omega))))
    go_ret
    exact ⟨rfl, by go_grown⟩
theorem equalInts_any (v1 v2 : Value) (l1 l2 : List Int) (w : World) (h1 : IntsAt w v1 l1) (h2 : IntsAt w v2 l2) :
    Calls Tryd.prog 59 #[v1, v2] w fun e w' => e = .returned (.bool (l1 == l2)) ∧ Below w.heap.size w w' := by
  have H1 : Hid (IntsAt w v1 l1) := h1
  have H2 : Hid (IntsAt w v2 l2) := h2
  obtain ⟨a1, c1, rfl, hlc1, hcm1, hl1⟩ := h1
  obtain ⟨a2, c2, rfl, hlc2, hcm2, hl2⟩ := h2
  unfold maxLen at hcm1 hcm2
  have HL1 := Lib.hid hl1
  have HL2 := Lib.hid hl2
  clear hl1 hl2
  by_cases hne : l1.length = l2.length
  · have ht : ((l1.length : Int) != (l2.length : Int)) = false := by simp [hne]
    have HN := Lib.hid hne
    clear hne
    go_enter Tryd.func59, Tryd.ntmps59
    go_wp2
    go_loopw [13] (fun i wr => ∃ k : Nat, k ≤ l1.length ∧ i = .int .i64 k ∧ l1.take k = l2.take k ∧ Below w.heap.size w wr) (fun i _ => l1.length - (intOf i).toNat)
    case atStart => exact ⟨0, by omega, rfl, by simp, Below.refl _ _⟩
    case round =>
      obtain ⟨k, hk, rfl, htk, hbel⟩ := hrel
      have HT := Lib.hid htk
      clear htk
      by_cases hlt : k < l1.length
      · obtain ⟨x, hx⟩ := getElem?_some_of_lt hlt
        obtain ⟨y, hy⟩ := getElem?_some_of_lt (show k < l2.length by rw [← HN.out]; exact hlt)
        have hlt2 : (k : Int) < (l2.length : Int) := by have := HN.out; omega
        have hlt1 : (k : Int) < (l1.length : Int) := by omega
        rcases HL1.out with hn | ⟨b1, o1, rfl, hc1⟩
        · rw [hn] at hlt; simp at hlt
        rcases HL2.out with hn | ⟨b2, o2, rfl, hc2⟩
        · rw [hn] at hlt2; simp at hlt2; omega
        have hcx := Later.cell (w := wr) ((hbel.cell (World.block_lt_of_cell? w _ (hc1 k x hx))).trans (hc1 k x hx))
        have hcy := Later.cell (w := wr) ((hbel.cell (World.block_lt_of_cell? w _ (hc2 k y hy))).trans (hc2 k y hy))
        have HX := Lib.hid hx
        have HY := Lib.hid hy
        clear hx hy hc1 hc2
        go_wp2
        refine wp_region_later (by kernel_rfl) (by kernel_rfl) ?_
        repeat (first | go_big_quiet_step (fail) | quiet_step (fail))
        refine wpQuiet_nil ?_
        intro xw
        have hxb := xw.below
        go_wp2
        · have hne : (x != y) = true := by assumption
          go_ret
          refine ⟨ret_bool ?_, hbel.trans (hxb.mono hbel.size)⟩
          symm
          rw [beq_eq_false_iff_ne]
          intro e
          have h1 := HX.out
          rw [e, HY.out] at h1
          simp at h1
          subst h1
          simp at hne
        · have heq : (x != y) = false := by assumption
          have hxy : x = y := by simpa using heq
          go_roundw
          case rel => exact ⟨k + 1, by omega, by go_num, take_eq_succI HT.out HX.out HY.out hxy, hbel.trans (hxb.mono hbel.size)⟩
          case measure => simp [intOf]; omega
      · have hk2 : k = l1.length := by omega
        subst hk2
        go_wp2
        go_ret
        refine ⟨ret_bool ?_, hbel⟩
        symm
        rw [beq_iff_eq]
        have h1 := HT.out
        rwa [List.take_length, HN.out, List.take_length] at h1
  · have ht : ((l1.length : Int) != (l2.length : Int)) = true := by simp; omega
    go_enter Tryd.func59, Tryd.ntmps59
    go_wp2
    go_ret
    exact ⟨ret_bool (by symm; rw [beq_eq_false_iff_ne]; exact fun e => hne (by rw [e])), Below.refl _ _⟩

set_option maxRecDepth 100000 in
set_option maxHeartbeats 2000000 in
theorem mapSame_any (p q : Bm.Map) (s1 s2 : Value) (w : World) (h1 : IntsAt w s1 p.used) (h2 : IntsAt w s2 q.used) :
    Calls Tryd.prog 35 #[.agg #[.int .u64 (p.gen : Int), .int .i64 p.blocks, s1], .agg #[.int .u64 (q.gen : Int), .int .i64 q.blocks, s2]] w fun e w' => e = .returned (.bool (mapEq p q)) ∧ Below w.heap.size w w' := by
  have H1 := Lib.hid h1
  have H2 := Lib.hid h2
  have HW := mapEq_ways p q
  obtain ⟨a1, c1, rfl, -, -⟩ := h1
  obtain ⟨a2, c2, rfl, -, -⟩ := h2
  obtain ⟨n1, k1, b1⟩ := p
  obtain ⟨n2, k2, b2⟩ := q
  simp only at *
  generalize hR : mapEq ⟨n1, k1, b1⟩ ⟨n2, k2, b2⟩ = R at *
  clear hR
  rcases HW with ⟨d1, rfl⟩ | ⟨d1, d2, rfl⟩ | ⟨d1, d2, rfl⟩
  all_goals
    go_enter Tryd.func35, Tryd.ntmps35
    go_wp2_with (go_at_call 59; (refine (equalInts_any _ _ _ _ _ ((H1.out.alloc _).alloc _) ((H2.out.alloc _).alloc _)).mono ?_); (rintro e w4 ⟨rfl, hb4⟩); (have hbw4 : Below w.heap.size w w4 := (show Below w.heap.size w _ by go_grown).trans (hb4.mono (by simp; omega))))
    go_ret
    exact ⟨rfl, by go_grown⟩
set_option maxRecDepth 100000 in
theorem of_any (gen : Nat) (blocks : Int) (a : Option Addr) (n c : Nat) (w : World) :
    Calls Tryd.prog 29 #[.agg #[.int .u64 (gen : Int), .int .i64 blocks, .slice a n c]] w fun e w' => e = .returned (.agg #[.int .u64 (gen : Int), .int .i64 blocks, .slice a n c]) ∧ Below w.heap.size w w' := by
  go_enter Tryd.func29, Tryd.ntmps29
  go_wp2
  refine bodyPost_ret (v := .agg #[.int .u64 (gen : Int), .int .i64 blocks, .slice a n c]) (by simp [results, Tryd.results29, go_sem]) rfl ?_
  exact ⟨rfl, by go_grown⟩
/-- the numbers from 0 on -/
def firstL (n : Nat) : List Int := (List.range n).map fun (i : Nat) => (i : Int)
theorem firstL_succ (n : Nat) : firstL (n + 1) = firstL n ++ [(n : Int)] := by unfold firstL; rw [List.range_succ, List.map_append]; rfl
theorem firstL_length (n : Nat) : (firstL n).length = n := by simp [firstL]
set_option maxRecDepth 100000 in
set_option maxHeartbeats 1000000 in
theorem first_any (N : Nat) (hN : N ≤ 1000) (w : World) :
    Calls Tryd.prog 70 #[.int .i64 (N : Int)] w fun e w' => (∃ a c, e = .returned (.slice a N c) ∧ OwnI w' w.heap.size (.slice a N c) (firstL N)) ∧ Below w.heap.size w w' := by
  go_enter Tryd.func70, Tryd.ntmps70
  go_wp2
  go_loopw [3, 4] (fun v i wr => ∃ k : Nat, k ≤ N ∧ i = .int .i64 k ∧ OwnI wr w.heap.size v (firstL k) ∧ Below w.heap.size w wr) (fun _ i _ => N - (intOf i).toNat)
  case atStart => exact ⟨0, by omega, rfl, OwnI.empty w _ (Nat.le_refl _), by go_grown⟩
  case round =>
    obtain ⟨k, hk, rfl, ho, hbr⟩ := hrel
    have HO := Lib.hid ho
    have HBR := Lib.hid hbr
    have HLE := Lib.hid (firstL_length k)
    clear ho hbr
    by_cases hlt : k < N
    · have HU := Lib.hid (firstL_succ k)
      have hlt1 : (k : Int) < (N : Int) := by omega
      have hll : (firstL k).length + [(k : Int)].length ≤ 17592186044416 := by have := HLE.out; simp; omega
      go_wp2_with (at_builtin; refine wpList_append_ints rfl (.tmp 11) (.tmp 13) rfl w.heap.size _ (firstL k) rfl (HO.out.alloc _) _ [(k : Int)] rfl (one_int _ _ _) hll (by have := HBR.out.size; simp; omega) ?_)
      intro v2 w2 hown hgrow hnn
      obtain ⟨a3, c3, rfl, -, -⟩ := hown.slice
      have hb2 := (HBR.out.alloc HBR.out.size (.cells #[.int .i64 (k : Int)] 3)).grown hgrow (by have := HBR.out.size; simp; omega) (fun j hj => (HO.out.lt j hj).1)
      have HO3 := Lib.hid hown
      have HB2 := Lib.hid hb2
      clear hgrow hown hb2 hnn
      go_wp2
      go_roundw
      case rel => exact ⟨k + 1, by omega, by go_num, by rw [HU.out]; exact HO3.out, HB2.out⟩
      case measure => simp [intOf]; omega
    · have hkk : k = N := by omega
      subst hkk
      obtain ⟨a3, c3, rfl, -, -⟩ := HO.out.slice
      have h := HO.out
      rw [HLE.out] at h ⊢
      go_wp2
      go_ret
      exact ⟨⟨a3, c3, rfl, h⟩, HBR.out⟩
end Go.Proofs.YtlobelfnjabajaaDoor
