/- the document's burst (Changed): the plain law and the walk -/
import Derived.Test.YtflbioiildndoaaDoorOwn
import Derived.Test.YtflbioiildndoaaDoorCrcMath
namespace Go.Proofs.YtflbioiildndoaaDoor
open Go.RowKit

/-! ### the plain law -/
/-- a bit of bytes is turned -/
def flip (l : List UInt8) (n : Nat) : List UInt8 := if n / 8 < l.length then l.set (n / 8) (l.getD (n / 8) 0 ^^^ UInt8.ofNat (2 ^ (n % 8))) else l
/-- the first k bits of a mask are turned, from a bit on -/
def changed (l : List UInt8) (bit : Nat) (mask : BitVec 32) : Nat → List UInt8
  | 0 => l
  | k + 1 => if mask.getLsbD k then flip (changed l bit mask k) (bit + k) else changed l bit mask k
theorem flip_length (l : List UInt8) (n : Nat) : (flip l n).length = l.length := by unfold flip; split <;> simp
theorem changed_length (l : List UInt8) (bit : Nat) (mask : BitVec 32) (k : Nat) : (changed l bit mask k).length = l.length := by
  induction k with
  | zero => rfl
  | succ k ih => simp only [changed]; split <;> simp [flip_length, ih]
theorem pow_bit (n j : Nat) (hn : n < 8) (hj : j < 8) : (UInt8.ofNat (2 ^ n)).toBitVec.getLsbD j = decide (n = j) := by
  have : ∀ n, n < 8 → ∀ j, j < 8 → (UInt8.ofNat (2 ^ n)).toBitVec.getLsbD j = decide (n = j) := by decide
  exact this n hn j hj
theorem flip_bits (l : List UInt8) (n j : Nat) : (Crc.bitsOf (flip l n))[j]? = if j = n then ((Crc.bitsOf l)[j]?).map (! ·) else (Crc.bitsOf l)[j]? := by
  rw [Crc.bitsOf_get, Crc.bitsOf_get]
  unfold flip
  by_cases hlt : n / 8 < l.length
  · rw [if_pos hlt, List.getElem?_set]
    by_cases he : n / 8 = j / 8
    · rw [if_pos he, if_pos hlt]
      have hj : l[j / 8]? = some (l.getD (n / 8) 0) := by rw [← he, List.getElem?_eq_getElem hlt]; simp [List.getD, List.getElem?_eq_getElem hlt]
      rw [hj]
      simp only [Option.map_some]
      rw [UInt8.toBitVec_xor, BitVec.getLsbD_xor, pow_bit _ _ (by omega) (by omega)]
      by_cases hjn : j = n
      · subst hjn; simp
      · have : n % 8 ≠ j % 8 := by omega
        simp [hjn, this]
    · rw [if_neg he, if_neg (by omega)]
  · rw [if_neg hlt]
    split
    · rename_i hjn; subst hjn
      rw [List.getElem?_eq_none (by omega)]; rfl
    · rfl
theorem changed_bits (l : List UInt8) (bit : Nat) (mask : BitVec 32) (k j : Nat) (h : j < bit ∨ bit + k ≤ j) : (Crc.bitsOf (changed l bit mask k))[j]? = (Crc.bitsOf l)[j]? := by
  induction k with
  | zero => rfl
  | succ k ih =>
    simp only [changed]
    split
    · rw [flip_bits, if_neg (by omega)]; exact ih (by omega)
    · exact ih (by omega)
/-- P2.3 -/
theorem changed_sum (l : List UInt8) (bit : Nat) (mask : BitVec 32) (h : Crc.sum l = Crc.sum (changed l bit mask 32)) : l = changed l bit mask 32 :=
  Crc.sum_burst bit (changed_length _ _ _ _).symm (fun j hj => (changed_bits l bit mask 32 j hj).symm) h

/-! ### the walk -/
/-- a mask's bits that are still to come, as a number -/
def maskRest (x : BitVec 32) (k : Nat) : Int := ((x.toNat / 2 ^ k : Nat) : Int)
theorem maskRest_bd (x : BitVec 32) (k : Nat) : 0 ≤ maskRest x k ∧ maskRest x k ≤ 4294967295 := by
  have h1 := Nat.div_le_self x.toNat (2 ^ k)
  have h2 := x.isLt
  unfold maskRest
  generalize x.toNat / 2 ^ k = n at *
  omega
theorem maskRest_zero (x : BitVec 32) : maskRest x 0 = (x.toNat : Int) := by simp [maskRest]
theorem maskRest_bit (x : BitVec 32) (k : Nat) : (maskRest x k % 2 == 1) = x.getLsbD k := by
  have : x.getLsbD k = decide (x.toNat / 2 ^ k % 2 = 1) := by rw [BitVec.getLsbD, Nat.testBit_eq_decide_div_mod_eq]
  rw [this]
  unfold maskRest
  generalize x.toNat / 2 ^ k = n
  rw [Bool.eq_iff_iff]
  simp
  omega
theorem maskRest_next (x : BitVec 32) (k : Nat) : maskRest x k / 2 = maskRest x (k + 1) := by
  unfold maskRest
  rw [Nat.pow_succ, ← Nat.div_div_eq_div_mul]; omega

theorem pow_u8 (n : Nat) : ((2 : Int) ^ n % 256) = ((UInt8.ofNat (2 ^ n)).toNat : Int) := by
  rw [UInt8.toNat_ofNat']
  simp
theorem flip_spell (x : UInt8) (n : Nat) : bits .xor .u8 (x.toNat : Int) ((2 : Int) ^ n % 256) = ((x ^^^ UInt8.ofNat (2 ^ n)).toNat : Int) := by
  rw [pow_u8, bits_xor_u8]
theorem changed_hit {l c : List UInt8} {bit k n : Nat} {mask : BitVec 32} {x : UInt8} (hc : changed l bit mask k = c) (hm : mask.getLsbD k = true) (hn : (bit + k) / 8 = n) (hx : c[n]? = some x) :
    c.set n (x ^^^ UInt8.ofNat (2 ^ ((bit + k) % 8))) = changed l bit mask (k + 1) := by
  have hlt : n < c.length := (List.getElem?_eq_some_iff.1 hx).1
  simp only [changed, hm, if_true, hc, flip, hn, hlt, List.getD, hx, Option.getD_some]
theorem changed_out {l c : List UInt8} {bit k : Nat} {mask : BitVec 32} (hc : changed l bit mask k = c) (h : ¬ (bit + k) / 8 < c.length) : c = changed l bit mask (k + 1) := by
  simp only [changed]
  rw [hc]
  unfold flip
  rw [if_neg h]
  simp
theorem changed_miss {l c : List UInt8} {bit k : Nat} {mask : BitVec 32} (hc : changed l bit mask k = c) (hm : mask.getLsbD k = false) : c = changed l bit mask (k + 1) := by
  simp only [changed]
  rw [hm, hc]
  simp

set_option maxHeartbeats 1000000 in
theorem changed_any (v : Value) (l : List UInt8) (bit : Nat) (mask : BitVec 32) (w : World) (hb : BytesAt w v l) (hlen : l.length ≤ 140737488355328) (hbit : bit ≤ 9223372036854775000) :
    Calls Tryd.prog 100 #[v, .int .i64 bit, .int .u32 (mask.toNat : Int)] w fun e w' => (∃ v', e = .returned v' ∧ Own w' w.heap.size v' (changed l bit mask 32)) ∧ Below w.heap.size w w' := by
  have HB := Lib.hid hb
  clear hb
  go_enter Tryd.func100, Tryd.ntmps100
  go_wp2_with (at_builtin; refine wpList_append_bytes rfl (.tmp 10) (.tmp 11) rfl w.heap.size _ [] rfl (Own.empty w _ (Nat.le_refl _)) _ l rfl (HB.out.alloc _) (by simpa using hlen) (by simp) ?_)
  intro v' w1 hown hgrow _
  have hbel := ((Below.refl w.heap.size w).alloc (Nat.le_refl _) (.cells #[] 5)).grown hgrow (by simp) (by intro k hk; simp [Value.ownBlock] at hk; omega)
  clear hgrow
  go_wp2
  go_loopw [2, 8] (fun m i wr => ∃ k : Nat, k ≤ 32 ∧ i = .int .i64 k ∧ m = .int .u32 (maskRest mask k) ∧ Own wr w.heap.size v' (changed l bit mask k) ∧ Below w.heap.size w wr) (fun _ i _ => 32 - (intOf i).toNat)
  case atStart => exact ⟨0, by omega, rfl, by rw [maskRest_zero], hown, hbel⟩
  case round =>
    obtain ⟨k, hk, rfl, rfl, ho, hbr⟩ := hrel
    have hbd := maskRest_bd mask k
    by_cases hlt : k < 32
    · have hcl : (changed l bit mask k).length = l.length := changed_length _ _ _ _
      generalize hc : changed l bit mask k = c at *
      have HC := Lib.hid hc
      have HCL := Lib.hid hcl
      have HO := Lib.hid ho
      have hcl2 : c.length ≤ 140737488355328 := by omega
      clear hc hcl ho
      have hbit2 := maskRest_bit mask k
      by_cases hm : mask.getLsbD k = true
      · rw [hm] at hbit2
        by_cases hat : (bit + k) / 8 < c.length
        · rcases HO.out.row with ⟨_, hnil⟩ | ⟨g, cap, rfl, hg1, hg2, hg3, hg4⟩
          · rw [hnil] at hat; simp at hat
          have hd : decide ((bit : Int) / 8 + ((bit : Int) % 8 + (k : Int)) / 8 < (c.length : Int)) = true := by simp; omega
          obtain ⟨x, hx⟩ := getElem?_some_of_lt hat
          have hcell := HO.out.cell rfl hx
          have hfree := HO.out.free rfl ((bit + k) / 8)
          have hat2 : bit / 8 + (bit % 8 + k) / 8 = (bit + k) / 8 := by omega
          rw [← hat2] at hcell hfree
          have HA := Lib.hid hat2
          clear hat2
          have HX := Lib.hid hx
          clear hx
          go_wp2
          have HS := Lib.hid (HO.out.set (k := bit / 8 + (bit % 8 + k) / 8) rfl (x ^^^ UInt8.ofNat (2 ^ ((bit + k) % 8))))
          go_wp2
          go_roundw
          case rel =>
            refine ⟨k + 1, by omega, by go_num, by rw [maskRest_next], ?_, hbr.setCell hg1 _⟩
            rw [flip_spell]
            have h1 := HS.out
            rw [HA.out, changed_hit HC.out hm rfl HX.out] at h1
            rw [HA.out]
            exact h1
          case measure => simp [intOf]; omega
        · have hd : decide ((bit : Int) / 8 + ((bit : Int) % 8 + (k : Int)) / 8 < (c.length : Int)) = false := by simp; omega
          have hlen' := HO.out.row
          rcases hlen' with ⟨rfl, hnil⟩ | ⟨g, cap, rfl, _⟩
          · rw [hnil] at hd
            simp only [List.length_nil] at hd
            go_wp2
          · go_wp2
            go_roundw
            case rel => exact ⟨k + 1, by omega, by go_num, by rw [maskRest_next], by rw [← changed_out HC.out hat]; exact HO.out, hbr⟩
            case measure => simp [intOf]; omega
      · have hm : mask.getLsbD k = false := by simpa using hm
        rw [hm] at hbit2
        go_wp2
        go_roundw
        case rel => exact ⟨k + 1, by omega, by go_num, by rw [maskRest_next], by rw [← changed_miss HC.out hm]; exact HO.out, hbr⟩
        case measure => simp [intOf]; omega
    · have hk2 : k = 32 := by omega
      subst hk2
      go_wp2
      go_ret
      exact ⟨⟨_, rfl, ho⟩, hbr⟩
end Go.Proofs.YtflbioiildndoaaDoor
