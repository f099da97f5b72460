/- the walks of the document's field -/
import Derived.Test.YtflbioiildndoaaDoorField
namespace Go.Proofs.YtflbioiildndoaaDoor
open Go.RowKit

theorem refRight_any (x : Int) (w : World) : Calls Tryd.prog 101 #[.int .i64 x] w fun e w' => e = .returned (.bool (Fld.right x)) ∧ w = w' := by
  cases h : Fld.right x with
  | true =>
    rcases Fld.right_cases h with rfl | rfl | rfl | rfl <;>
    · go_enter Tryd.func101, Tryd.ntmps101
      go_wp2
      go_ret
      exact ⟨rfl, rfl⟩
  | false =>
    obtain ⟨h1, h2, h4, h8⟩ := Fld.right_not h
    have b1 : (x == 1) = false := by simp [h1]
    have b2 : (x == 2) = false := by simp [h2]
    have b4 : (x == 4) = false := by simp [h4]
    have b8 : (x == 8) = false := by simp [h8]
    clear h1 h2 h4 h8 h
    go_enter Tryd.func101, Tryd.ntmps101
    go_wp2
    go_ret
    exact ⟨rfl, rfl⟩

theorem nRest_fits (n x : Nat) : (nRest n x == 0) = decide (n < 256 ^ x) := by
  unfold nRest
  rw [Bool.eq_iff_iff, beq_iff_eq, decide_eq_true_iff]
  have hp : 0 < 256 ^ x := Nat.pow_pos (by omega)
  constructor
  · intro h
    have h' : n / 256 ^ x = 0 := by omega
    rcases Nat.div_eq_zero_iff.1 h' with h | h
    · omega
    · exact h
  · intro h
    rw [Nat.div_eq_of_lt h]; rfl
theorem fits_any (n x : Nat) (hx : x ≤ 8) (hn : n < 18446744073709551616) (w : World) :
    Calls Tryd.prog 102 #[.int .u64 (n : Int), .int .i64 (x : Int)] w fun e w' => e = .returned (.bool (decide (n < 256 ^ x))) ∧ w = w' := by
  go_enter Tryd.func102, Tryd.ntmps102
  go_wp2
  go_loop [0, 5] (fun m i => ∃ k : Nat, k ≤ x ∧ i = .int .i64 k ∧ m = .int .u64 (nRest n k)) (fun _ i => x - (intOf i).toNat)
  case atStart => exact ⟨0, by omega, rfl, by rw [nRest_zero]⟩
  case round =>
    obtain ⟨k, hk, rfl, rfl⟩ := hrel
    have hbd := nRest_bd n k hn
    by_cases hlt : k < x
    · have h8 : (k : Int) < 8 := by omega
      have hlt2 : (k : Int) < (x : Int) := by omega
      go_wp2
      go_round
      case rel => exact ⟨k + 1, by omega, by go_num, by rw [nRest_next]⟩
      case measure => simp [intOf]; omega
    · have hkx : k = x := by omega
      subst hkx
      go_wp2
      go_ret
      exact ⟨ret_bool (nRest_fits n k), rfl⟩

def GivesBytesC (w : World) (l : List UInt8) (e : Ending) (w' : World) : Prop := ∃ v, e = .returned (.tuple #[v, .int .i64 0]) ∧ Own w' w.heap.size v l
theorem GivesBytesC.seen {w w' : World} {l : List UInt8} {e : Ending} (h : GivesBytesC w l e w') : ∃ a c, e = .returned (.tuple #[.slice a l.length c, .int .i64 0]) ∧ Own w' w.heap.size (.slice a l.length c) l := by
  obtain ⟨v, rfl, ho⟩ := h
  obtain ⟨a, c, rfl, _, _⟩ := ho.slice
  exact ⟨a, c, rfl, ho⟩
set_option maxHeartbeats 1000000 in
theorem refPut_ok (v : Value) (l : List UInt8) (n : Nat) (x : Nat) (w : World) (hb : BytesAt w v l) (hx : Fld.right (x : Int) = true) (hn : n < 256 ^ x) (hn64 : n < 18446744073709551616) (hlen : l.length ≤ 140737488351232) :
    Calls Tryd.prog 95 #[v, .int .u64 (n : Int), .int .i64 (x : Int)] w fun e w' => GivesBytesC w (l ++ Fld.le x n) e w' ∧ Below w.heap.size w w' := by
  have HB := Lib.hid hb
  have hx8 : x ≤ 8 := by rcases Fld.right_cases hx with h | h | h | h <;> omega
  have hd : decide (n < 256 ^ x) = true := decide_eq_true hn
  clear hb
  go_enter Tryd.func95, Tryd.ntmps95
  go_wp2_with (first | (go_at_call 101; refine (refRight_any _ _).mono ?_; rintro e w' ⟨rfl, rfl⟩) | (go_at_call 102; refine (fits_any n x hx8 hn64 _).mono ?_; rintro e w' ⟨rfl, rfl⟩) | (at_builtin; refine wpList_append_bytes rfl (.tmp 19) (.tmp 20) rfl w.heap.size _ [] rfl (Own.empty w _ (Nat.le_refl _)) _ l rfl (HB.out.alloc _) (by simp; omega) (by simp) ?_))
  intro v1 w1 hown hgrow _
  have hbel := ((Below.refl w.heap.size w).alloc (Nat.le_refl _) (.cells #[] 5)).grown hgrow (by simp) (by intro k hk; simp [Value.ownBlock] at hk; omega)
  have HO := Lib.hid hown
  clear hgrow hown hd
  go_wp2
  go_loopw [8, 1, 9] (fun o m i wr => ∃ k : Nat, k ≤ x ∧ i = .int .i64 k ∧ m = .int .u64 (nRest n k) ∧ Own wr w.heap.size o (l ++ Fld.le k n) ∧ Below w.heap.size w wr) (fun _ _ i _ => x - (intOf i).toNat)
  case atStart => exact ⟨0, by omega, rfl, by rw [nRest_zero], by simpa [Fld.le] using HO.out, hbel⟩
  case round =>
    obtain ⟨k, hk, rfl, rfl, ho, hbr⟩ := hrel
    have HO2 := Lib.hid ho
    have hbd := nRest_bd n k hn64
    have hsz := hbr.size
    clear ho
    by_cases hlt : k < x
    · have HB1 := Lib.hid (one_byte wr (UInt8.ofNat (n / 256 ^ k)) _ (nRest_byte n k) 5)
      have hll : (l ++ Fld.le k n).length + 1 ≤ 140737488355328 := by rw [List.length_append, Fld.le_length]; omega
      go_wp2_with (at_builtin; refine wpList_append_bytes rfl (.tmp 27) (.tmp 31) rfl w.heap.size _ (l ++ Fld.le k n) rfl (HO2.out.alloc _) _ [UInt8.ofNat (n / 256 ^ k)] rfl HB1.out hll (by simp; omega) ?_)
      intro v2 w2 hown hgrow _
      have hb2 := (hbr.alloc hsz (.cells #[.int .u8 (nRest n k % 256)] 5)).grown hgrow (by simp; omega) (fun j hj => (HO2.out.lt j hj).1)
      have HO3 := Lib.hid hown
      clear hgrow hown
      go_wp2
      go_roundw
      case rel => exact ⟨k + 1, by omega, by go_num, by rw [nRest_next], by rw [Fld.le_snoc]; exact HO3.out, hb2⟩
      case measure => simp [intOf]; omega
    · have hkx : k = x := by omega
      subst hkx
      go_wp2
      go_ret2
      exact ⟨⟨_, rfl, HO2.out⟩, hbr⟩
theorem refPut_bad (v : Value) (n : Nat) (x : Int) (w : World) (hn64 : n < 18446744073709551616) (hx : Fld.right x = false ∨ ¬ n < 256 ^ x.toNat) :
    Calls Tryd.prog 95 #[v, .int .u64 (n : Int), .int .i64 x] w fun e w' => Gives (.slice none 0 0) (.int .i64 2) e ∧ w = w' := by
  by_cases hr : Fld.right x = true
  · have hb : ¬ n < 256 ^ x.toNat := by
      rcases hx with h | h
      · rw [hr] at h; cases h
      · exact h
    obtain ⟨m, rfl⟩ : ∃ m : Nat, x = (m : Int) := ⟨x.toNat, by rcases Fld.right_cases hr with h | h | h | h <;> omega⟩
    rw [Int.toNat_natCast] at hb
    have hx8 : m ≤ 8 := by rcases Fld.right_cases hr with h | h | h | h <;> omega
    have hd : decide (n < 256 ^ m) = false := decide_eq_false hb
    clear hb hx
    go_enter Tryd.func95, Tryd.ntmps95
    go_wp2_with (first | (go_at_call 101; refine (refRight_any _ _).mono ?_; rintro e w' ⟨rfl, rfl⟩) | (go_at_call 102; refine (fits_any n m hx8 hn64 _).mono ?_; rintro e w' ⟨rfl, rfl⟩))
    go_ret2
    exact ⟨rfl, rfl⟩
  · have hr : Fld.right x = false := by simpa using hr
    clear hx
    go_enter Tryd.func95, Tryd.ntmps95
    go_wp2_with (first | (go_at_call 101; refine (refRight_any _ _).mono ?_; rintro e w' ⟨rfl, rfl⟩))
    go_ret2
    exact ⟨rfl, rfl⟩

/-- what has been taken of the first j bytes; the scale of the next one -/
def tkN (l : List UInt8) (at_ j : Nat) : Int := ((Fld.unle ((l.drop at_).take j) : Nat) : Int)
def scN (j : Nat) : Int := ((256 ^ j % 18446744073709551616 : Nat) : Int)
theorem tkN_step (l : List UInt8) (at_ j : Nat) (y : UInt8) (hj : j < 8) (h : l[at_ + j]? = some y) :
    IntKind.u64.wrap (tkN l at_ j + IntKind.u64.wrap (y.toNat * scN j)) = tkN l at_ (j + 1) := by
  have hlt : at_ + j < l.length := (List.getElem?_eq_some_iff.1 h).1
  have e : (l.drop at_).take (j + 1) = (l.drop at_).take j ++ [y] := by
    rw [List.take_add_one, List.getElem?_drop, h]; rfl
  have hl : ((l.drop at_).take j).length = j := by simp; omega
  have h2 := Fld.unle_lt ((l.drop at_).take j)
  rw [hl] at h2
  have hp : 256 ^ j ≤ 256 ^ 7 := Nat.pow_le_pow_right (by omega) (by omega)
  have hs : scN j = ((256 ^ j : Nat) : Int) := by
    unfold scN
    rw [Nat.mod_eq_of_lt (by omega)]
  have hm : y.toNat * 256 ^ j ≤ 255 * 256 ^ j := Nat.mul_le_mul_right _ (by have := y.toNat_lt; omega)
  unfold tkN
  rw [e, Fld.unle_append, hl, hs]
  simp only [Fld.unle, Nat.mul_zero, Nat.add_zero]
  rw [Nat.mul_comm (256 ^ j)]
  rw [← Int.natCast_mul]
  generalize y.toNat * 256 ^ j = P at *
  generalize Fld.unle ((l.drop at_).take j) = M at *
  rw [IntKind.wrap_u64, IntKind.wrap_u64]
  omega
theorem scN_step (j : Nat) : IntKind.u64.wrap (scN j * 256) = scN (j + 1) := by
  unfold scN
  rw [IntKind.wrap_u64, Nat.pow_succ]
  generalize 256 ^ j = P
  omega

end Go.Proofs.YtflbioiildndoaaDoor
