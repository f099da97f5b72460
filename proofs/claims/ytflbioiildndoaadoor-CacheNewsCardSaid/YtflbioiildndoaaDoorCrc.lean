/- the walks of the check sum: crc.Entry, crc.More, crc.Sum, crc.Holds -/
import Derived.Test.YtflbioiildndoaaDoorBase
import Derived.Test.YtflbioiildndoaaDoorCrcMath
namespace Go.Proofs.YtflbioiildndoaaDoor
open Go.RowKit

theorem even_bit (q : BitVec 32) : (bits .and .u32 (q.toNat : Int) 1 == 1) = q.getLsbD 0 := by
  have h1 : (1 : Int) = ((1#32).toNat : Int) := rfl
  have := bits_and_u32 q 1#32
  rw [← h1] at this
  rw [this]
  have e : (q &&& 1#32).toNat = q.toNat % 2 := by
    rw [BitVec.toNat_and]; exact Nat.and_one_is_mod _
  rw [e]
  have : q.getLsbD 0 = decide (q.toNat % 2 = 1) := by
    rw [BitVec.getLsbD, Nat.testBit_zero]
  rw [this, Bool.eq_iff_iff]
  simp
  omega
theorem entry_yes (q : BitVec 32) (h : (bits .and .u32 (q.toNat : Int) 1 == 1) = true) : bits .xor .u32 ((q.toNat : Int) / 2) 3988292384 = ((Crc.st q).toNat : Int) := by
  rw [even_bit] at h
  have e : ((q.toNat : Int) / (2 : Int)) = ((q >>> 1).toNat : Int) := by
    rw [BitVec.toNat_ushiftRight, Nat.shiftRight_eq_div_pow]; omega
  rw [e]
  have := bits_xor_u32 (q >>> 1) Crc.poly
  have hp : ((Crc.poly.toNat : Nat) : Int) = 3988292384 := rfl
  rw [hp] at this
  rw [this]
  unfold Crc.st
  rw [if_pos h]
theorem entry_no (q : BitVec 32) (h : (bits .and .u32 (q.toNat : Int) 1 == 1) = false) : ((q.toNat : Int) / 2) = ((Crc.st q).toNat : Int) := by
  rw [even_bit] at h
  have e : ((q.toNat : Int) / (2 : Int)) = ((q >>> 1).toNat : Int) := by
    rw [BitVec.toNat_ushiftRight, Nat.shiftRight_eq_div_pow]; omega
  rw [e]
  unfold Crc.st
  rw [h]
  simp

theorem ret_u32 {a b : Int} (h : a = b) : Ending.returned (.int .u32 a) = .returned (.int .u32 b) := by rw [h]

theorem entry_any (n : UInt8) (z : Int) (hz : z = (n.toNat : Int)) (w : World) :
    Calls Tryd.prog 110 #[.int .u8 z] w fun e w' => e = .returned (.int .u32 ((Crc.entry n).toNat : Int)) ∧ w = w' := by
  subst hz
  go_enter Tryd.func110, Tryd.ntmps110
  go_wp2
  go_loop [3, 7] (fun r i => ∃ k : Nat, k ≤ 8 ∧ i = .int .i64 k ∧ ∃ q : BitVec 32, Crc.itn (8 - k) q = Crc.entry n ∧ r = .int .u32 q.toNat) (fun _ i => 8 - (intOf i).toNat)
  case atStart => exact ⟨0, by omega, rfl, n.toBitVec.setWidth 32, rfl, by congr 1; have := n.toNat_lt; simp; omega⟩
  case round =>
    obtain ⟨k, hk, rfl, q, hq, rfl⟩ := hrel
    have HQ : Hid (Crc.itn (8 - k) q = Crc.entry n) := hq
    clear hq
    go_wp2
    · go_round
      case rel => exact ⟨k + 1, by omega, by go_num, Crc.st q, by rw [← HQ.out, show 8 - k = (8 - (k + 1)) + 1 from by omega]; rfl, by rw [entry_yes q (by assumption)]⟩
      case measure => simp [intOf]; omega
    · go_round
      case rel => exact ⟨k + 1, by omega, by go_num, Crc.st q, by rw [← HQ.out, show 8 - k = (8 - (k + 1)) + 1 from by omega]; rfl, by rw [entry_no q (by assumption)]⟩
      case measure => simp [intOf]; omega
    · go_ret
      have : k = 8 := by omega
      subst this
      exact ⟨ret_u32 (by rw [← HQ.out]; rfl), rfl⟩

theorem upd_spell (r : BitVec 32) (x : UInt8) (e : BitVec 32) (he : e = Crc.entry (UInt8.ofBitVec (r.setWidth 8) ^^^ x)) :
    bits .xor .u32 ((r.toNat : Int) / 256) (e.toNat : Int) = ((Crc.upd r x).toNat : Int) := by
  have e1 : ((r.toNat : Int) / (256 : Int)) = ((r >>> 8).toNat : Int) := by
    rw [BitVec.toNat_ushiftRight, Nat.shiftRight_eq_div_pow]; omega
  rw [e1, bits_xor_u32, he]; rfl
theorem low_spell (r : BitVec 32) (x : UInt8) : bits .xor .u8 ((r.toNat : Int) % 256) (x.toNat : Int) = ((UInt8.ofBitVec (r.setWidth 8) ^^^ x).toNat : Int) := by
  have e1 : ((r.toNat : Int) % (256 : Int)) = ((UInt8.ofBitVec (r.setWidth 8)).toNat : Int) := by
    simp
  rw [e1, bits_xor_u8]
theorem run_take {r : BitVec 32} {l : List UInt8} {k : Nat} {x : UInt8} (h : l[k]? = some x) : Crc.run r (l.take (k + 1)) = Crc.upd (Crc.run r (l.take k)) x := by
  rw [List.take_add_one, h]
  simp [Crc.run]

theorem not_spell (s : BitVec 32) : bits .xor .u32 IntKind.u32.max (s.toNat : Int) = ((~~~s).toNat : Int) := by
  have h : IntKind.u32.max = (((BitVec.allOnes 32).toNat : Nat) : Int) := rfl
  rw [h, bits_xor_u32, BitVec.allOnes_xor]

set_option maxHeartbeats 400000 in
theorem more_any (s : BitVec 32) (v : Value) (l : List UInt8) (w : World) (hb : BytesAt w v l) :
    Calls Tryd.prog 107 #[.int .u32 (s.toNat : Int), v] w fun e w' => e = .returned (.int .u32 ((Crc.more s l).toNat : Int)) ∧ w = w' := by
  obtain ⟨a, c, rfl, hlc, hcm, hl⟩ := hb
  unfold maxLen at hcm
  have hns := not_spell s
  have HL : Hid (l = [] ∨ ∃ b o, a = some ⟨b, o, none⟩ ∧ ∀ i x, l[i]? = some x → w.cell? ⟨b, o + i, none⟩ = some (.int .u8 (x.toNat : Int))) := hl
  clear hl
  go_enter Tryd.func107, Tryd.ntmps107
  go_wp2
  clear hns
  go_loop [5, 12] (fun r i => ∃ k : Nat, k ≤ l.length ∧ i = .int .i64 k ∧ r = .int .u32 ((Crc.run (~~~s) (l.take k)).toNat : Int)) (fun _ i => l.length - (intOf i).toNat)
  case atStart => exact ⟨0, by omega, rfl, by show _ = Value.int .u32 ((~~~s).toNat : Int); rw [BitVec.toNat_not]⟩
  case round =>
    obtain ⟨k, hk, rfl, rfl⟩ := hrel
    by_cases hlt : k < l.length
    · obtain ⟨x, hx⟩ := getElem?_some_of_lt hlt
      rcases HL.out with hn | ⟨b, o, rfl, hc⟩
      · rw [hn] at hlt; simp at hlt
      have hcx := hc k x hx
      have HX : Hid (l[k]? = some x) := hx
      clear hc hx
      generalize hr : Crc.run (~~~s) (l.take k) = r
      have HR : Hid (Crc.run (~~~s) (l.take k) = r) := hr
      clear hr
      go_wp2_with (go_at_call 110; refine (entry_any (UInt8.ofBitVec (r.setWidth 8) ^^^ x) _ (low_spell r x) _).mono ?_; rintro e w' ⟨rfl, rfl⟩)
      go_round
      case rel => exact ⟨k + 1, by omega, by go_num, by rw [run_take HX.out, HR.out, upd_spell r x _ rfl]⟩
      case measure => simp [intOf]; omega
    · have hk2 : k = l.length := by omega
      subst hk2
      go_wp2
      go_ret
      exact ⟨ret_u32 (by rw [not_spell]; rfl), rfl⟩

theorem sum_any (v : Value) (l : List UInt8) (w : World) (hb : BytesAt w v l) :
    Calls Tryd.prog 99 #[v] w fun e w' => e = .returned (.int .u32 ((Crc.sum l).toNat : Int)) ∧ w = w' := by
  go_enter Tryd.func99, Tryd.ntmps99
  go_wp2_with (go_at_call 107; refine (more_any 0#32 v l _ hb).mono ?_; rintro e w' ⟨rfl, rfl⟩)
  go_ret
  exact ⟨rfl, rfl⟩

theorem sum_wf (l : List UInt8) : ((Crc.sum l).toNat : Int) < 4294967296 := by have := (Crc.sum l).isLt; omega
end Go.Proofs.YtflbioiildndoaaDoor
