/- the walks of the document's check sum: step, Entry, More, Sum -/
import Derived.Test.YtflbioiildndoaaDoorCrc
namespace Go.Proofs.YtflbioiildndoaaDoor
open Go.RowKit

theorem low_bit (q : BitVec 32) : q.getLsbD 0 = decide (q.toNat % 2 = 1) := by rw [BitVec.getLsbD, Nat.testBit_zero]
theorem half (q : BitVec 32) : ((q.toNat : Int) / (2 : Int)) = ((q >>> 1).toNat : Int) := by
  rw [BitVec.toNat_ushiftRight, Nat.shiftRight_eq_div_pow]; omega
theorem xor_one_shift (q : BitVec 32) (b : Bool) : (q ^^^ Crc.one b) >>> 1 = q >>> 1 := by
  have : Crc.one b >>> 1 = 0#32 := by cases b <;> rfl
  rw [BitVec.ushiftRight_xor_distrib, this, BitVec.xor_zero]
theorem xor_one_low (q : BitVec 32) (b : Bool) : (q ^^^ Crc.one b).getLsbD 0 = (q.getLsbD 0 ^^ b) := by
  rw [BitVec.getLsbD_xor]; cases b <;> simp [Crc.one]
theorem step_ne (q : BitVec 32) (b : Bool) (h : q.getLsbD 0 ≠ b) : bits .xor .u32 ((q.toNat : Int) / 2) 3988292384 = ((Crc.stepBit q b).toNat : Int) := by
  rw [half]
  have := bits_xor_u32 (q >>> 1) Crc.poly
  have hp : ((Crc.poly.toNat : Nat) : Int) = 3988292384 := rfl
  rw [hp] at this
  rw [this]
  unfold Crc.stepBit Crc.st
  rw [xor_one_shift, xor_one_low, if_pos (by revert h; cases q.getLsbD 0 <;> cases b <;> simp)]
theorem step_eq (q : BitVec 32) (b : Bool) (h : q.getLsbD 0 = b) : ((q.toNat : Int) / 2) = ((Crc.stepBit q b).toNat : Int) := by
  rw [half]
  unfold Crc.stepBit Crc.st
  rw [xor_one_shift, xor_one_low, if_neg (by rw [h]; simp), BitVec.xor_zero]

theorem step_any (q : BitVec 32) (b : Bool) (z : Int) (hz : z = if b then 1 else 0) (w : World) :
    Calls Tryd.prog 103 #[.int .u32 (q.toNat : Int), .int .u32 z] w fun e w' => e = .returned (.int .u32 ((Crc.stepBit q b).toNat : Int)) ∧ w = w' := by
  subst hz
  have hq := low_bit q
  by_cases h : q.getLsbD 0 = b
  · have ht : (((q.toNat : Int) % 2) != (if b then (1 : Int) else 0)) = false := by
      rw [← h, hq]; by_cases hm : q.toNat % 2 = 1 <;> simp [hm] <;> omega
    have hs := step_eq q b h
    clear hq h
    generalize (if b then (1 : Int) else 0) = z at *
    have HS := Lib.hid hs
    clear hs
    go_enter Tryd.func103, Tryd.ntmps103
    go_wp2
    go_ret
    exact ⟨ret_u32 HS.out, rfl⟩
  · have ht : (((q.toNat : Int) % 2) != (if b then (1 : Int) else 0)) = true := by
      revert h; rw [hq]; by_cases hm : q.toNat % 2 = 1 <;> cases b <;> simp [hm] <;> omega
    have hs := step_ne q b h
    clear hq h
    generalize (if b then (1 : Int) else 0) = z at *
    have HS := Lib.hid hs
    clear hs
    go_enter Tryd.func103, Tryd.ntmps103
    go_wp2
    go_ret
    exact ⟨ret_u32 HS.out, rfl⟩

theorem stepBit_false (q : BitVec 32) : Crc.stepBit q false = Crc.st q := by simp [Crc.stepBit, Crc.one]

/-- a byte's bits that are still to come, as a number -/
def byteRest (x : UInt8) (k : Nat) : Int := ((x.toNat / 2 ^ k : Nat) : Int)
theorem byteRest_bd (x : UInt8) (k : Nat) : 0 ≤ byteRest x k ∧ byteRest x k ≤ 255 := by
  have h1 := Nat.div_le_self x.toNat (2 ^ k)
  have h2 := x.toNat_lt
  unfold byteRest
  generalize x.toNat / 2 ^ k = n at *
  omega
theorem byteRest_zero (x : UInt8) : byteRest x 0 = (x.toNat : Int) := by simp [byteRest]
theorem byteRest_bit (x : UInt8) (k : Nat) : byteRest x k % 2 = if x.toBitVec.getLsbD k then 1 else 0 := by
  have : x.toBitVec.getLsbD k = decide (x.toNat / 2 ^ k % 2 = 1) := by
    rw [BitVec.getLsbD, Nat.testBit_eq_decide_div_mod_eq]; rfl
  rw [this]
  unfold byteRest
  generalize x.toNat / 2 ^ k = n
  by_cases h : n % 2 = 1 <;> simp [h] <;> omega
theorem byteRest_next (x : UInt8) (k : Nat) : byteRest x k / 2 = byteRest x (k + 1) := by
  unfold byteRest
  rw [Nat.pow_succ, ← Nat.div_div_eq_div_mul]; omega
theorem fold_take {r : BitVec 32} {l : List Bool} {k : Nat} {x : Bool} (h : l[k]? = some x) : Crc.fold r (l.take (k + 1)) = Crc.stepBit (Crc.fold r (l.take k)) x := by
  rw [List.take_add_one, h]
  simp [Crc.fold]

set_option maxHeartbeats 1000000 in
theorem refMore_any (s : BitVec 32) (v : Value) (l : List UInt8) (w : World) (hb : BytesAt w v l) :
    Calls Tryd.prog 96 #[.int .u32 (s.toNat : Int), v] w fun e w' => e = .returned (.int .u32 ((Crc.more s l).toNat : Int)) ∧ w = w' := by
  obtain ⟨a, c, rfl, hlc, hcm, hl⟩ := hb
  unfold maxLen at hcm
  have hs := s.isLt
  have HL : Hid (l = [] ∨ ∃ b o, a = some ⟨b, o, none⟩ ∧ ∀ i x, l[i]? = some x → w.cell? ⟨b, o + i, none⟩ = some (.int .u8 (x.toNat : Int))) := hl
  clear hl
  go_enter Tryd.func96, Tryd.ntmps96
  go_wp2
  go_loop [5, 6] (fun r i => ∃ k : Nat, k ≤ l.length ∧ i = .int .i64 k ∧ r = .int .u32 ((Crc.run (~~~s) (l.take k)).toNat : Int)) (fun _ i => l.length - (intOf i).toNat)
  case atStart => exact ⟨0, by omega, rfl, by show _ = Value.int .u32 ((~~~s).toNat : Int); congr 1; rw [BitVec.toNat_not]; omega⟩
  case round =>
    obtain ⟨k, hk, rfl, rfl⟩ := hrel
    by_cases hlt : k < l.length
    · obtain ⟨x, hx⟩ := getElem?_some_of_lt hlt
      rcases HL.out with hn | ⟨b, o, rfl, hc⟩
      · rw [hn] at hlt; simp at hlt
      have hcx := hc k x hx
      have HX : Hid (l[k]? = some x) := hx
      clear hc hx
      generalize hr : Crc.run (~~~s) (l.take k) = r
      have HR : Hid (Crc.run (~~~s) (l.take k) = r) := hr
      clear hr
      have hxl := x.toNat_lt
      go_wp2
      go_loop [5, 7, 8] (fun r' y j => ∃ m : Nat, m ≤ 8 ∧ j = .int .i64 m ∧ y = .int .u32 (byteRest x m) ∧ r' = .int .u32 ((Crc.fold r ((Crc.byteBits x).take m)).toNat : Int)) (fun _ _ j => 8 - (intOf j).toNat)
      case atStart => exact ⟨0, by omega, rfl, by rw [byteRest_zero], by rfl⟩
      case round =>
        obtain ⟨m, hm, rfl, rfl, rfl⟩ := hrel
        by_cases hlt2 : m < 8
        · have hbit := Crc.byteBits_get x m hlt2
          have HB : Hid ((Crc.byteBits x)[m]? = some (x.toBitVec.getLsbD m)) := hbit
          clear hbit
          generalize hf : Crc.fold r ((Crc.byteBits x).take m) = f
          have HF : Hid (Crc.fold r ((Crc.byteBits x).take m) = f) := hf
          clear hf
          have hbd := byteRest_bd x m
          go_wp2_with (go_at_call 103; refine (step_any f (x.toBitVec.getLsbD m) _ (byteRest_bit x m) _).mono ?_; rintro e w' ⟨rfl, rfl⟩)
          go_round
          case rel => exact ⟨m + 1, by omega, by go_num, by rw [byteRest_next], by rw [fold_take HB.out, HF.out]; rfl⟩
          case measure => simp [intOf]; omega
        · have hm8 : m = 8 := by omega
          subst hm8
          go_wp2
          go_round
          case rel => exact ⟨k + 1, by omega, by go_num, by
            rw [run_take HX.out, HR.out, ← Crc.fold_byte]
            rw [List.take_of_length_le (by rw [Crc.byteBits_length]; omega)]⟩
          case measure => simp [intOf]; omega
    · have hk2 : k = l.length := by omega
      subst hk2
      go_wp2
      go_ret
      exact ⟨ret_u32 (by
        have := (Crc.run (~~~s) l).isLt
        unfold Crc.more
        rw [BitVec.toNat_not]
        omega), rfl⟩

theorem refSum_any (v : Value) (l : List UInt8) (w : World) (hb : BytesAt w v l) :
    Calls Tryd.prog 85 #[v] w fun e w' => e = .returned (.int .u32 ((Crc.sum l).toNat : Int)) ∧ w = w' := by
  go_enter Tryd.func85, Tryd.ntmps85
  go_wp2_with (go_at_call 96; refine (refMore_any 0#32 v l _ hb).mono ?_; rintro e w' ⟨rfl, rfl⟩)
  go_ret
  exact ⟨rfl, rfl⟩
end Go.Proofs.YtflbioiildndoaaDoor
