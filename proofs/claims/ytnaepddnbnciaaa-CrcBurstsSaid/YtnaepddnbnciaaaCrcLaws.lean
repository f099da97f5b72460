/- the walks of layer 2's laws -/
import Derived.Test.YtnaepddnbnciaaaCrcRef
import Derived.Test.YtnaepddnbnciaaaCrcAwake
import Derived.Test.YtnaepddnbnciaaaChanged
namespace Go.Proofs.Ytnaepddnbnciaaa
open Go.RowKit

theorem crcMores_walk (s : BitVec 32) (v : Value) (l : List UInt8) (w : World) (hb : BytesAt w v l) :
    Calls Try.prog 3 #[.int .u32 (s.toNat : Int), v] w fun e w' => e = .returned (.bool true) ∧ Below w.heap.size w w' := by
  have HB := Lib.hid hb
  clear hb
  go_enter Try.func3, Try.ntmps3
  go_wp2_with (first | (go_at_call 9; refine (more_any s v l _ HB.out).mono ?_; rintro e w' ⟨rfl, rfl⟩) | (go_at_call 10; refine (refMore_any s v l _ HB.out).mono ?_; rintro e w' ⟨rfl, rfl⟩) | (go_at_call 11; refine (crcAwake_any _).mono ?_; rintro e w' ⟨rfl, hbel⟩))
  go_ret
  exact ⟨rfl, hbel⟩

theorem crcEntries_walk (n : UInt8) (w : World) :
    Calls Try.prog 4 #[.int .u8 (n.toNat : Int)] w fun e w' => e = .returned (.bool true) ∧ Below w.heap.size w w' := by
  go_enter Try.func4, Try.ntmps4
  go_wp2_with (first | (go_at_call 12; refine (entry_any n _ rfl _).mono ?_; rintro e w' ⟨rfl, rfl⟩) | (go_at_call 13; refine (refEntry_any n _).mono ?_; rintro e w' ⟨rfl, rfl⟩) | (go_at_call 11; refine (crcAwake_any _).mono ?_; rintro e w' ⟨rfl, hbel⟩))
  go_ret
  exact ⟨rfl, hbel⟩

theorem crcSums_walk (s : Int) (v : Value) (l : List UInt8) (w : World) (hb : BytesAt w v l) :
    Calls Try.prog 8 #[v, .int .u32 s] w fun e w' => e = .returned (.bool true) ∧ Below w.heap.size w w' := by
  have HB := Lib.hid hb
  clear hb
  generalize hS : ((Crc.sum l).toNat : Int) = S
  have HS := Lib.hid hS
  clear hS
  go_enter Try.func8, Try.ntmps8
  go_wp2_with fail
  refine (refSum_any v l _ HB.out).mono ?_
  rintro e w' ⟨rfl, rfl⟩
  rw [HS.out]
  go_wp2_with fail
  refine (sum_any v l _ HB.out).mono ?_
  rintro e w' ⟨rfl, rfl⟩
  rw [HS.out]
  go_wp2_with fail
  refine (holds_any v l _ _ HB.out).mono ?_
  rintro e w' ⟨rfl, rfl⟩
  rw [HS.out]
  go_wp2_with fail
  refine (holds_any v l _ _ HB.out).mono ?_
  rintro e w' ⟨rfl, rfl⟩
  rw [HS.out]
  have ht : ((S == s) == (s == S)) = true := by rw [beq_iff_eq, Bool.eq_iff_iff, beq_iff_eq, beq_iff_eq]; exact eq_comm
  go_wp2_with (go_at_call 11; refine (crcAwake_any _).mono ?_; rintro e w' ⟨rfl, hbel⟩)
  go_ret
  exact ⟨rfl, hbel⟩

theorem crcBursts_walk (v : Value) (l : List UInt8) (bit : Nat) (mask : BitVec 32) (w : World) (hb : BytesAt w v l) (hlen : l.length ≤ 140737488355328) (hbit : bit ≤ 65535) :
    Calls Try.prog 6 #[v, .int .u16 bit, .int .u32 (mask.toNat : Int)] w fun e w' => e = .returned (.bool true) ∧ Below w.heap.size w w' := by
  have HB := Lib.hid hb
  clear hb
  go_enter Try.func6, Try.ntmps6
  go_wp2_with fail
  refine (changed_any v l bit mask _ HB.out hlen (by omega)).mono ?_
  rintro e w1 ⟨⟨v1, rfl, hown⟩, hb1⟩
  have HO := Lib.hid hown
  clear hown
  go_wp2_with fail
  refine (same_any v v1 l _ _ (HB.out.below hb1) HO.out.bytes).mono ?_
  rintro e w2 ⟨rfl, hb2⟩
  have B1 := Lib.hid (HB.out.below hb1 |>.below hb2)
  have B2 := Lib.hid (HO.out.bytes.below hb2)
  have hb3 := hb1.trans (hb2.mono hb1.size)
  by_cases he : l = changed l bit mask 32
  · have ht : (l == changed l bit mask 32) = true := by rw [beq_iff_eq]; exact he
    have ht2 : (((Crc.sum l).toNat : Int) == ((Crc.sum (changed l bit mask 32)).toNat : Int)) = true := by rw [← he]; simp
    have HE := Lib.hid he
    clear he
    generalize changed l bit mask 32 = c at *
    go_wp2_with fail
    refine (sum_any v l _ B1.out).mono ?_
    rintro e w' ⟨rfl, rfl⟩
    go_wp2_with fail
    refine (sum_any v1 c _ B2.out).mono ?_
    rintro e w' ⟨rfl, rfl⟩
    go_wp2_with (go_at_call 11; refine (crcAwake_any _).mono ?_; rintro e w' ⟨rfl, hbel⟩)
    go_ret
    exact ⟨rfl, hb3.trans (hbel.mono hb3.size)⟩
  · have ht : (l == changed l bit mask 32) = false := by rw [beq_eq_false_iff_ne]; exact he
    have ht2 : (((Crc.sum l).toNat : Int) != ((Crc.sum (changed l bit mask 32)).toNat : Int)) = true := by
      rw [bne_iff_ne]
      intro h
      exact he (changed_sum l bit mask (BitVec.eq_of_toNat_eq (by omega)))
    clear he
    generalize changed l bit mask 32 = c at *
    go_wp2_with fail
    refine (sum_any v l _ B1.out).mono ?_
    rintro e w' ⟨rfl, rfl⟩
    go_wp2_with fail
    refine (sum_any v1 c _ B2.out).mono ?_
    rintro e w' ⟨rfl, rfl⟩
    go_wp2_with (go_at_call 11; refine (crcAwake_any _).mono ?_; rintro e w' ⟨rfl, hbel⟩)
    go_ret
    exact ⟨rfl, hb3.trans (hbel.mono hb3.size)⟩
end Go.Proofs.Ytnaepddnbnciaaa
