/- the walks of CrcJoins and CrcThree -/
import Derived.Test.YtnaepddnbnciaaaCrcLaws
import Derived.StillTailTactics
namespace Go.Proofs.Ytnaepddnbnciaaa
open Go.RowKit

theorem crcJoins_walk (v1 v2 : Value) (l1 l2 : List UInt8) (w : World) (h1 : BytesAt w v1 l1) (h2 : BytesAt w v2 l2) (hlen : l1.length + l2.length ≤ 140737488355328) :
    Calls Try.prog 5 #[v1, v2] w fun e w' => e = .returned (.bool true) ∧ Below w.heap.size w w' := by
  have H1 := Lib.hid h1
  have H2 := Lib.hid h2
  clear h1 h2
  go_enter Try.func5, Try.ntmps5
  go_wp2_with (at_builtin; refine wpList_append_bytes rfl (.tmp 6) (.tmp 7) rfl w.heap.size _ [] rfl (Own.empty w _ (Nat.le_refl _)) _ l1 rfl (H1.out.alloc _) (by simp; omega) (by simp) ?_)
  intro v3 w1 hown hgrow _
  have hbel := ((Below.refl w.heap.size w).alloc (Nat.le_refl _) (.cells #[] 5)).grown hgrow (by simp) (by intro k hk; simp [Value.ownBlock] at hk; omega)
  have HO := Lib.hid hown
  clear hgrow hown
  have HB := Lib.hid (H2.out.below hbel)
  have hsz := hbel.size
  go_wp2_with (at_builtin; refine wpList_append_bytes rfl (.tmp 8) (.tmp 9) rfl w.heap.size _ l1 rfl HO.out _ l2 rfl HB.out (by omega) hsz ?_)
  intro v4 w2 hown hgrow _
  have hb2 := hbel.grown hgrow hsz (fun k hk => (HO.out.lt k hk).1)
  have HO2 := Lib.hid hown.bytes
  clear hgrow hown
  have B1 := Lib.hid (H1.out.below hb2)
  have B2 := Lib.hid (H2.out.below hb2)
  go_wp2_with fail
  refine (sum_any _ _ _ HO2.out).mono ?_
  rintro e w' ⟨rfl, rfl⟩
  go_wp2_with fail
  refine (sum_any _ _ _ B1.out).mono ?_
  rintro e w' ⟨rfl, rfl⟩
  go_wp2_with fail
  refine (more_any _ _ _ _ B2.out).mono ?_
  rintro e w' ⟨rfl, rfl⟩
  have ht : (((Crc.sum (l1 ++ l2)).toNat : Int) == ((Crc.more (Crc.sum l1) l2).toNat : Int)) = true := by
    rw [Crc.sum_append]; simp
  go_wp2_with (go_at_call 11; refine (crcAwake_any _).mono ?_; rintro e w' ⟨rfl, hbel3⟩)
  go_ret
  exact ⟨rfl, hb2.trans (hbel3.mono hb2.size)⟩

theorem min3 (a b c : Nat) : (if (c : Int) < (if (b : Int) < (a : Int) then (b : Int) else (a : Int)) then (c : Int) else (if (b : Int) < (a : Int) then (b : Int) else (a : Int))) = ((min (min a b) c : Nat) : Int) := by
  by_cases h : (b : Int) < (a : Int)
  · simp only [h, if_true]; split <;> omega
  · simp only [h, if_false]; split <;> omega

/-- three texts of one length, held against one another -/
def xor3 (n : Nat) (l1 l2 l3 : List UInt8) : List UInt8 := List.zipWith (· ^^^ ·) (List.zipWith (· ^^^ ·) (l1.take n) (l2.take n)) (l3.take n)
theorem xor3_length {n : Nat} {l1 l2 l3 : List UInt8} (h1 : n ≤ l1.length) (h2 : n ≤ l2.length) (h3 : n ≤ l3.length) : (xor3 n l1 l2 l3).length = n := by
  simp [xor3]; omega
theorem xor3_get {n k : Nat} {l1 l2 l3 : List UInt8} {x y z : UInt8} (hk : k < n) (h1 : l1[k]? = some x) (h2 : l2[k]? = some y) (h3 : l3[k]? = some z) : (xor3 n l1 l2 l3)[k]? = some (x ^^^ y ^^^ z) := by
  simp [xor3, List.getElem?_zipWith, hk, h1, h2, h3]
/-- what has been filled in behind k rounds -/
def filled (z : List UInt8) (k : Nat) : List UInt8 := z.take k ++ List.replicate (z.length - k) 0
theorem filled_length (z : List UInt8) (k : Nat) (h : k ≤ z.length) : (filled z k).length = z.length := by simp [filled]; omega
theorem filled_set (z : List UInt8) (k : Nat) (x : UInt8) (h : z[k]? = some x) : (filled z k).set k x = filled z (k + 1) := by
  have hk : k < z.length := (List.getElem?_eq_some_iff.1 h).1
  apply List.ext_getElem?
  intro j
  unfold filled
  rw [List.getElem?_set]
  by_cases hj : k = j
  · subst hj
    rw [if_pos rfl, if_pos (by simp; omega), List.getElem?_append_left (by simp; omega), List.getElem?_take, if_pos (by omega), h]
  · rw [if_neg hj]
    by_cases hlt : j < k
    · rw [List.getElem?_append_left (by simp; omega), List.getElem?_append_left (by simp; omega), List.getElem?_take, List.getElem?_take, if_pos hlt, if_pos (by omega)]
    · rw [List.getElem?_append_right (by simp; omega), List.getElem?_append_right (by simp; omega)]
      simp only [List.length_take, List.getElem?_replicate]
      have e1 : min k z.length = k := by omega
      have e2 : min (k + 1) z.length = k + 1 := by omega
      rw [e1, e2]
      by_cases h2 : j < z.length
      · rw [if_pos (by omega), if_pos (by omega)]
      · rw [if_neg (by omega), if_neg (by omega)]
theorem filled_all (z : List UInt8) : filled z z.length = z := by simp [filled]

set_option maxHeartbeats 1000000 in
theorem crcThree_walk (v1 v2 v3 : Value) (l1 l2 l3 : List UInt8) (w : World) (h1 : BytesAt w v1 l1) (h2 : BytesAt w v2 l2) (h3 : BytesAt w v3 l3) (hlen : l1.length ≤ 140737488355328) :
    Calls Try.prog 7 #[v1, v2, v3] w fun e w' => e = .returned (.bool true) ∧ Below w.heap.size w w' := by
  have H1 := Lib.hid h1
  have H2 := Lib.hid h2
  have H3 := Lib.hid h3
  obtain ⟨a1, c1, rfl, hlc1, hcm1, hl1⟩ := h1
  obtain ⟨a2, c2, rfl, hlc2, hcm2, hl2⟩ := h2
  obtain ⟨a3, c3, rfl, hlc3, hcm3, hl3⟩ := h3
  unfold maxLen at hcm1 hcm2 hcm3
  have HL1 := Lib.hid hl1
  have HL2 := Lib.hid hl2
  have HL3 := Lib.hid hl3
  clear hl1 hl2 hl3
  obtain ⟨n, hn⟩ : ∃ n, n = min (min l1.length l2.length) l3.length := ⟨_, rfl⟩
  have hn1 : n ≤ l1.length := by omega
  have hn2 : n ≤ l2.length := by omega
  have hn3 : n ≤ l3.length := by omega
  have hmin : ∀ ts t w, (Builtin.min_ ts t #[.int .i64 l1.length, .int .i64 l2.length, .int .i64 l3.length]).run Try.prog w = .ok (.int .i64 (n : Int)) w := fun ts t w => by
    rw [run_min_int3, min3, hn]
  clear hn
  go_enter Try.func7, Try.ntmps7
  go_wp2_with (at_make; refine wpList_make_bytes rfl _ _ rfl n _ _ rfl rfl rfl rfl (by omega) ?_)
  intro w1 hown hgrow
  have hbel := (Below.refl w.heap.size w).grown hgrow (Nat.le_refl _) (by intro k hk; cases hk)
  clear hgrow
  go_wp2
  have hzl := xor3_length hn1 hn2 hn3
  generalize hz : xor3 n l1 l2 l3 = z at hzl
  have HZ := Lib.hid hz
  have HZL := Lib.hid hzl
  clear hz hzl
  go_loopw [9] (fun i wr => ∃ k : Nat, k ≤ n ∧ i = .int .i64 k ∧ Own wr w.heap.size (.slice (some ⟨w.heap.size, 0, none⟩) n n) (filled z k) ∧ Below w.heap.size w wr) (fun i _ => n - (intOf i).toNat)
  case atStart => exact ⟨0, by omega, rfl, by unfold filled; rw [HZL.out]; exact hown, hbel⟩
  case round =>
    obtain ⟨k, hk, rfl, ho, hbr⟩ := hrel
    have HO := Lib.hid ho
    clear ho hown
    by_cases hlt : k < n
    · obtain ⟨x1, hx1⟩ := getElem?_some_of_lt (show k < l1.length by omega)
      obtain ⟨x2, hx2⟩ := getElem?_some_of_lt (show k < l2.length by omega)
      obtain ⟨x3, hx3⟩ := getElem?_some_of_lt (show k < l3.length by omega)
      rcases HL1.out with hn | ⟨b1, o1, rfl, hc1⟩
      · rw [hn] at hn1; simp at hn1; omega
      rcases HL2.out with hn | ⟨b2, o2, rfl, hc2⟩
      · rw [hn] at hn2; simp at hn2; omega
      rcases HL3.out with hn | ⟨b3, o3, rfl, hc3⟩
      · rw [hn] at hn3; simp at hn3; omega
      have hcx1 := (hbr.cell (World.block_lt_of_cell? w _ (hc1 k x1 hx1))).trans (hc1 k x1 hx1)
      have hcx2 := (hbr.cell (World.block_lt_of_cell? w _ (hc2 k x2 hx2))).trans (hc2 k x2 hx2)
      have hcx3 := (hbr.cell (World.block_lt_of_cell? w _ (hc3 k x3 hx3))).trans (hc3 k x3 hx3)
      have hfl := filled_length z k (by rw [HZL.out]; exact hk)
      rw [HZL.out] at hfl
      have hfree := HO.out.free hfl.symm k
      obtain ⟨x0, hx0⟩ := getElem?_some_of_lt (show k < (filled z k).length by omega)
      have hcell0 := HO.out.cell hfl.symm hx0
      have HS := Lib.hid (HO.out.set (k := k) hfl.symm (x1 ^^^ x2 ^^^ x3))
      have HX := Lib.hid (xor3_get hlt hx1 hx2 hx3)
      have k1 : (k : Int) < (l1.length : Int) := by omega
      have k2 : (k : Int) < (l2.length : Int) := by omega
      have k3 : (k : Int) < (l3.length : Int) := by omega
      clear hc1 hc2 hc3 hx1 hx2 hx3 hfl hx0
      go_wp2
      go_region
      all_goals
        go_wp2
        go_roundw
        case rel =>
          refine ⟨k + 1, by omega, by go_num, ?_, (hbr.setCell (Nat.le_refl _) _).drew⟩
          rw [bits_xor_u8, bits_xor_u8]
          have h1 := HS.out
          have hx := HX.out
          rw [HZ.out] at hx
          rw [filled_set z k _ hx] at h1
          exact h1
        case measure => simp [intOf]; omega
    · have hk2 : k = n := by omega
      subst hk2
      have q1 : (k : Int) ≤ (c1 : Int) := by omega
      have q2 : (k : Int) ≤ (c2 : Int) := by omega
      have q3 : (k : Int) ≤ (c3 : Int) := by omega
      have q0 : (0 : Int) ≤ (k : Int) := by omega
      have T1 := Lib.hid (Later.bytes ((H1.out.below hbr).take hn1))
      have T2 := Lib.hid (Later.bytes ((H2.out.below hbr).take hn2))
      have T3 := Lib.hid (Later.bytes ((H3.out.below hbr).take hn3))
      have hfa : filled z k = z := by
        have := filled_all z
        rwa [HZL.out] at this
      have ho4 := HO.out.bytes
      rw [hfa] at ho4
      have T4 := Lib.hid (Later.bytes ho4)
      clear ho4 hfa
      have ht : (bits .xor .u32 (bits .xor .u32 ((Crc.sum (l1.take k)).toNat : Int) ((Crc.sum (l2.take k)).toNat : Int)) ((Crc.sum (l3.take k)).toNat : Int) == ((Crc.sum z).toNat : Int)) = true := by
        rw [bits_xor_u32, bits_xor_u32, Crc.sum_three _ _ _ (by simp; omega) (by simp; omega), ← HZ.out]
        simp [xor3]
      go_wp2
      refine wp_region_later (by kernel_rfl) (by kernel_rfl) ?_
      repeat (first | go_big_quiet_step (first | (go_at_call 14; first | exact Calls.later_same (sum_any _ _ _ (T1.out _)) | exact Calls.later_same (sum_any _ _ _ (T2.out _)) | exact Calls.later_same (sum_any _ _ _ (T3.out _)) | exact Calls.later_same (sum_any _ _ _ (T4.out _))) | (go_at_call 11; exact Calls.later_of (crcAwake_any _))) | quiet_step (first | (go_at_call 14; first | exact Calls.later_same (sum_any _ _ _ (T1.out _)) | exact Calls.later_same (sum_any _ _ _ (T2.out _)) | exact Calls.later_same (sum_any _ _ _ (T3.out _)) | exact Calls.later_same (sum_any _ _ _ (T4.out _))) | (go_at_call 11; exact Calls.later_of (crcAwake_any _))))
      refine wpQuiet_nil ?_
      intro xw
      have hxb := xw.below
      go_wp2
      go_ret
      exact ⟨rfl, hbr.trans (hxb.mono hbr.size)⟩
end Go.Proofs.Ytnaepddnbnciaaa
