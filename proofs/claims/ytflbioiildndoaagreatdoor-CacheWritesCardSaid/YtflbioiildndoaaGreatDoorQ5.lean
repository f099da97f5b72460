/- merged: Field, FieldRef, FieldNum, Crc, Code, Same -/
import Derived.Test.YtflbioiildndoaaGreatDoorQ1
import Derived.Test.YtflbioiildndoaaGreatDoorQ2
import Derived.Test.YtflbioiildndoaaGreatDoorQ3
/- the walks of package field -/
namespace Go.Proofs.YtflbioiildndoaaGreatDoor
open Go.RowKit

theorem right_any (x : Int) (w : World) : Calls Tryz.prog 98 #[.int .i64 x] w fun e w' => e = .returned (.bool (Fld.right x)) ∧ w = w' := by
  cases h : Fld.right x with
  | true =>
    rcases Fld.right_cases h with rfl | rfl | rfl | rfl <;>
    · go_enter Tryz.func98, Tryz.ntmps98
      go_wp2
      go_ret
      exact ⟨rfl, rfl⟩
  | false =>
    obtain ⟨h1, h2, h4, h8⟩ := Fld.right_not h
    have b1 : (x == 1) = false := by simp [h1]
    have b2 : (x == 2) = false := by simp [h2]
    have b4 : (x == 4) = false := by simp [h4]
    have b8 : (x == 8) = false := by simp [h8]
    clear h1 h2 h4 h8 h
    go_enter Tryz.func98, Tryz.ntmps98
    go_wp2
    go_ret
    exact ⟨rfl, rfl⟩

/-- what a call that makes bytes leaves -/
def GivesBytes (w : World) (l : List UInt8) (e : Ending) (w' : World) : Prop := ∃ v, e = .returned (.tuple #[v, .nilIface]) ∧ Own w' w.heap.size v l
theorem GivesBytes.seen {w w' : World} {l : List UInt8} {e : Ending} (h : GivesBytes w l e w') : ∃ a c, e = .returned (.tuple #[.slice a l.length c, .nilIface]) ∧ Own w' w.heap.size (.slice a l.length c) l := by
  obtain ⟨v, rfl, ho⟩ := h
  obtain ⟨a, c, rfl, _, _⟩ := ho.slice
  exact ⟨a, c, rfl, ho⟩
def Fails2 (x : Value) (A : Nat → Addr) (B : Nat) (l : List Int) (k : Nat) (e : Ending) (w' : World) : Prop := ∃ v, e = .returned (.tuple #[x, v]) ∧ ErrIs w' A B l k v

/-- a number that is shifted, byte by byte -/
def nRest (n k : Nat) : Int := ((n / 256 ^ k : Nat) : Int)
theorem nRest_zero (n : Nat) : nRest n 0 = (n : Int) := by simp [nRest]
theorem nRest_next (n k : Nat) : nRest n k / 256 = nRest n (k + 1) := by
  unfold nRest
  rw [Nat.pow_succ, ← Nat.div_div_eq_div_mul]; omega
theorem nRest_byte (n k : Nat) : nRest n k % 256 = ((UInt8.ofNat (n / 256 ^ k)).toNat : Int) := by
  unfold nRest
  rw [UInt8.toNat_ofNat']
  omega
theorem nRest_bd (n k : Nat) (h : n < 18446744073709551616) : 0 ≤ nRest n k ∧ nRest n k ≤ 18446744073709551615 := by
  have h1 := Nat.div_le_self n (256 ^ k)
  unfold nRest
  generalize n / 256 ^ k = m at *
  omega
/-- a byte in a block of its own -/
theorem one_byte (w : World) (x : UInt8) (z : Int) (hz : z = (x.toNat : Int)) (t : TypeId) : BytesAt (w.alloc (.cells #[.int .u8 z] t)) (.slice (some ⟨w.heap.size, 0, none⟩) 1 1) [x] := by
  subst hz
  refine ⟨_, 1, rfl, by simp, by unfold maxLen; omega, .inr ⟨w.heap.size, 0, rfl, fun i y hy => ?_⟩⟩
  have : i = 0 := by
    have := (List.getElem?_eq_some_iff.1 hy).1
    simp at this; omega
  subst this
  simp at hy
  subst hy
  exact cell_of_row _ w.heap.size 0 _ t (0, 0) (heap_alloc_new w _)

theorem shift_zero (n x : Nat) (h : n < 256 ^ x) : ((n : Int) / 2 ^ (8 * x) != 0) = false := by
  have e : (2 : Int) ^ (8 * x) = ((256 ^ x : Nat) : Int) := by
    have h2 : 256 ^ x = 2 ^ (8 * x) := by rw [Nat.pow_mul]
    rw [h2]; simp
  rw [e]
  have : (n : Int) / ((256 ^ x : Nat) : Int) = ((n / 256 ^ x : Nat) : Int) := by simp
  rw [this, Nat.div_eq_of_lt h]
  rfl

set_option maxHeartbeats 1000000 in
theorem put_ok (v : Value) (l : List UInt8) (n : Nat) (x : Nat) (w : World) (hb : BytesAt w v l) (hx : Fld.right (x : Int) = true) (hn : n < 256 ^ x) (hn64 : n < 18446744073709551616) (hlen : l.length ≤ 140737488351232) :
    Calls Tryz.prog 87 #[v, .int .u64 (n : Int), .int .i64 (x : Int)] w fun e w' => GivesBytes w (l ++ Fld.le x n) e w' ∧ Below w.heap.size w w' := by
  have HB := Lib.hid hb
  have hx8 : x ≤ 8 := by rcases Fld.right_cases hx with h | h | h | h <;> omega
  have hsh := shift_zero n x hn
  clear hb
  by_cases h8 : (x : Int) < 8
  all_goals
    go_enter Tryz.func87, Tryz.ntmps87
    go_wp2_with (first | (go_at_call 98; refine (right_any _ _).mono ?_; rintro e w' ⟨rfl, rfl⟩) | (at_builtin; refine wpList_append_bytes rfl (.tmp 25) (.tmp 26) rfl w.heap.size _ [] rfl (Own.empty w _ (Nat.le_refl _)) _ l rfl (HB.out.alloc _) (by simp; omega) (by simp) ?_))
    intro v1 w1 hown hgrow _
    have hbel := ((Below.refl w.heap.size w).alloc (Nat.le_refl _) (.cells #[] 5)).grown hgrow (by simp) (by intro k hk; simp [Value.ownBlock] at hk; omega)
    have HO := Lib.hid hown
    clear hgrow hown
    clear hsh
    go_wp2
    go_loopw [8, 1, 29] (fun o m i wr => ∃ k : Nat, k ≤ x ∧ i = .int .i64 k ∧ m = .int .u64 (nRest n k) ∧ Own wr w.heap.size o (l ++ Fld.le k n) ∧ Below w.heap.size w wr) (fun _ _ i _ => x - (intOf i).toNat)
    case atStart => exact ⟨0, by omega, rfl, by rw [nRest_zero], by simpa [Fld.le] using HO.out, hbel⟩
    case round =>
      obtain ⟨k, hk, rfl, rfl, ho, hbr⟩ := hrel
      have HO2 := Lib.hid ho
      have hbd := nRest_bd n k hn64
      have hsz := hbr.size
      clear ho
      by_cases hlt : k < x
      · have HB1 := Lib.hid (one_byte wr (UInt8.ofNat (n / 256 ^ k)) _ (nRest_byte n k) 5)
        have hll : (l ++ Fld.le k n).length + 1 ≤ 140737488355328 := by rw [List.length_append, Fld.le_length]; omega
        go_wp2_with (at_builtin; refine wpList_append_bytes rfl (.tmp 31) (.tmp 34) rfl w.heap.size _ (l ++ Fld.le k n) rfl (HO2.out.alloc _) _ [UInt8.ofNat (n / 256 ^ k)] rfl HB1.out hll (by simp; omega) ?_)
        intro v2 w2 hown hgrow _
        have hb2 := (hbr.alloc hsz (.cells #[.int .u8 (nRest n k % 256)] 5)).grown hgrow (by simp; omega) (fun j hj => (HO2.out.lt j hj).1)
        have HO3 := Lib.hid hown
        clear hgrow hown
        go_wp2
        go_roundw
        case rel => exact ⟨k + 1, by omega, by go_num, by rw [nRest_next], by rw [Fld.le_snoc]; exact HO3.out, hb2⟩
        case measure => simp [intOf]; omega
      · have hkx : k = x := by omega
        subst hkx
        go_wp2
        go_ret2
        exact ⟨⟨_, rfl, HO2.out⟩, hbr⟩

theorem shift_some (n x : Nat) (h : ¬ n < 256 ^ x) : ((n : Int) / 2 ^ (8 * x) != 0) = true := by
  have e : (2 : Int) ^ (8 * x) = ((256 ^ x : Nat) : Int) := by
    have h2 : 256 ^ x = 2 ^ (8 * x) := by rw [Nat.pow_mul]
    rw [h2]; simp
  rw [e]
  have h1 : (n : Int) / ((256 ^ x : Nat) : Int) = ((n / 256 ^ x : Nat) : Int) := by simp
  have h2 : 0 < n / 256 ^ x := Nat.div_pos (by omega) (Nat.pow_pos (by omega))
  rw [h1, bne_iff_ne]
  omega

/-- no width, or a number that does not fit -/
theorem put_bad (v : Value) (n : Nat) (x : Int) (w : World) (A : Nat → Addr) {S : Nat → Prop} [Has S 1] [Has S 2] (hs : SentsOn S w A) (hn64 : n < 18446744073709551616) (hx : Fld.right x = false ∨ ¬ n < 256 ^ x.toNat) :
    Calls Tryz.prog 87 #[v, .int .u64 (n : Int), .int .i64 x] w fun e w' => Fails2 (.slice none 0 0) A w.heap.size [-1] 2 e w' ∧ Below w.heap.size w w' := by
  have g2 : w.cell? ⟨1, 0, none⟩ = some (.iface 176 (.pointer (some (A 2)))) := hs.cell 2 (by decide) (by decide)
  have HE := Lib.hid (sent_err (w := w) (A := A) (B := w.heap.size) 2 (by decide) (by decide))
  by_cases hr : Fld.right x = true
  · have hb : ¬ n < 256 ^ x.toNat := by
      rcases hx with h | h
      · rw [hr] at h; cases h
      · exact h
    obtain ⟨m, rfl⟩ : ∃ m : Nat, x = (m : Int) := ⟨x.toNat, by rcases Fld.right_cases hr with h | h | h | h <;> omega⟩
    rw [Int.toNat_natCast] at hb
    have hsh := shift_some n m hb
    have h8 : (m : Int) < 8 := by
      rcases Fld.right_cases hr with h | h | h | h
      · omega
      · omega
      · omega
      · obtain rfl : m = 8 := by omega
        exact absurd hn64 (by simpa using hb)
    clear hb hx
    go_enter Tryz.func87, Tryz.ntmps87
    go_wp2_with (first | (go_at_call 98; refine (right_any _ _).mono ?_; rintro e w' ⟨rfl, rfl⟩) | (go_at_call 41; refine (faultNew_any _ 2 _ _ A _ HE.out (by decide) (Nat.le_refl _)).mono ?_; rintro e w' ⟨⟨v1, rfl, he⟩, hb⟩))
    go_ret2
    exact ⟨⟨_, rfl, he⟩, hb⟩
  · have hr : Fld.right x = false := by simpa using hr
    clear hx
    go_enter Tryz.func87, Tryz.ntmps87
    go_wp2_with (first | (go_at_call 98; refine (right_any _ _).mono ?_; rintro e w' ⟨rfl, rfl⟩) | (go_at_call 41; refine (faultNew_any _ 2 _ _ A _ HE.out (by decide) (Nat.le_refl _)).mono ?_; rintro e w' ⟨⟨v1, rfl, he⟩, hb⟩))
    go_ret2
    exact ⟨⟨_, rfl, he⟩, hb⟩

/-- what has been taken from the last byte down to byte j -/
def tk (l : List UInt8) (at_ x j : Nat) : Int := ((Fld.unle ((l.drop (at_ + j)).take (x - j)) : Nat) : Int)
theorem tk_end (l : List UInt8) (at_ x : Nat) : tk l at_ x x = 0 := by simp [tk, Fld.unle]
theorem tk_all (l : List UInt8) (at_ x : Nat) : tk l at_ x 0 = ((Fld.unle ((l.drop at_).take x) : Nat) : Int) := by simp [tk]
theorem tk_bd (l : List UInt8) (at_ x j : Nat) (hx : x ≤ 8) : 0 ≤ tk l at_ x (j + 1) ∧ tk l at_ x (j + 1) ≤ 72057594037927935 := by
  have h1 := Fld.unle_lt ((l.drop (at_ + (j + 1))).take (x - (j + 1)))
  have h2 : ((l.drop (at_ + (j + 1))).take (x - (j + 1))).length ≤ 7 := by rw [List.length_take]; omega
  have h3 : 256 ^ ((l.drop (at_ + (j + 1))).take (x - (j + 1))).length ≤ 256 ^ 7 := Nat.pow_le_pow_right (by omega) h2
  unfold tk
  generalize Fld.unle ((l.drop (at_ + (j + 1))).take (x - (j + 1))) = n at *
  omega
theorem tk_next (l : List UInt8) (at_ x j : Nat) (y : UInt8) (hj : j < x) (h : l[at_ + j]? = some y) : tk l at_ x j = tk l at_ x (j + 1) * 256 + (y.toNat : Int) := by
  have hlt : at_ + j < l.length := (List.getElem?_eq_some_iff.1 h).1
  have e : (l.drop (at_ + j)).take (x - j) = y :: (l.drop (at_ + (j + 1))).take (x - (j + 1)) := by
    rw [List.drop_eq_getElem_cons hlt, show x - j = (x - (j + 1)) + 1 by omega, List.take_succ_cons]
    have : l[at_ + j] = y := by
      have := List.getElem?_eq_getElem hlt
      rw [h] at this
      exact (Option.some.inj this).symm
    rw [this]; rfl
  unfold tk
  rw [e, Fld.unle]
  omega
theorem or_byte (n : Int) (y : UInt8) (h0 : 0 ≤ n) (h1 : n ≤ 72057594037927935) : bits .or .u64 (n * 256) (y.toNat : Int) = n * 256 + (y.toNat : Int) := by
  obtain ⟨m, rfl⟩ := Int.eq_ofNat_of_zero_le h0
  have hy := y.toNat_lt
  show IntKind.u64.wrap ((BitVec.ofInt 64 ((m : Int) * 256) ||| BitVec.ofInt 64 (y.toNat : Int)).toNat : Int) = _
  have e1 : ((m : Int) * 256) = ((m * 256 : Nat) : Int) := by simp
  rw [e1, BitVec.ofInt_natCast, BitVec.ofInt_natCast, BitVec.toNat_or, BitVec.toNat_ofNat, BitVec.toNat_ofNat, Nat.mod_eq_of_lt (by omega), Nat.mod_eq_of_lt (by omega)]
  have e2 : m * 256 ||| y.toNat = m * 256 + y.toNat := by
    have := Nat.shiftLeft_add_eq_or_of_lt (a := m) (b := y.toNat) (i := 8) (by omega)
    rw [Nat.shiftLeft_eq] at this
    exact this.symm
  rw [e2, IntKind.wrap_u64]
  omega

def Gives (a b : Value) (e : Ending) : Prop := e = .returned (.tuple #[a, b])
set_option maxHeartbeats 1000000 in
theorem take_ok (v : Value) (l : List UInt8) (at_ x : Nat) (w : World) (hb : BytesAt w v l) (hx : Fld.right (x : Int) = true) (hat : at_ + x ≤ l.length) :
    Calls Tryz.prog 104 #[v, .int .i64 (at_ : Int), .int .i64 (x : Int)] w fun e w' => Gives (.int .u64 ((Fld.unle ((l.drop at_).take x) : Nat) : Int)) .nilIface e ∧ w = w' := by
  obtain ⟨a, c, rfl, hlc, hcm, hl⟩ := hb
  unfold maxLen at hcm
  have HL := Lib.hid hl
  clear hl
  have hx8 : x ≤ 8 := by rcases Fld.right_cases hx with h | h | h | h <;> omega
  have hx1 : 1 ≤ x := by rcases Fld.right_cases hx with h | h | h | h <;> omega
  have q1 : (at_ : Int) ≤ (l.length : Int) := by omega
  have q2 : (x : Int) ≤ (l.length : Int) - (at_ : Int) := by omega
  go_enter Tryz.func104, Tryz.ntmps104
  go_wp2_with (first | (go_at_call 98; refine (right_any _ _).mono ?_; rintro e w' ⟨rfl, rfl⟩))
  go_loop [8, 9] (fun m i => ∃ j : Nat, j ≤ x ∧ i = .int .i64 ((j : Int) - 1) ∧ m = .int .u64 (tk l at_ x j)) (fun _ i => (intOf i + 1).toNat)
  case atStart => exact ⟨x, by omega, rfl, by rw [tk_end]⟩
  case round =>
    obtain ⟨j, hj, rfl, rfl⟩ := hrel
    cases j with
    | zero =>
      go_wp2
      go_ret2
      exact ⟨by rw [tk_all]; rfl, rfl⟩
    | succ j =>
      have ej : (((j + 1 : Nat) : Int) - 1) = (j : Int) := by omega
      rw [ej]
      clear ej
      obtain ⟨y, hy⟩ := getElem?_some_of_lt (show at_ + j < l.length by omega)
      rcases HL.out with hn | ⟨b, o, rfl, hc⟩
      · rw [hn] at hat; simp at hat; omega
      have hcy := hc (at_ + j) y hy
      have HY := Lib.hid (tk_next l at_ x j y (by omega) hy)
      clear hc hy
      have hbd := tk_bd l at_ x j hx8
      have hyb := y.toNat_lt
      go_wp2
      go_round
      case rel => exact ⟨j, by omega, rfl, by rw [or_byte _ _ hbd.1 hbd.2, HY.out]⟩
      case measure => simp [intOf]

/-- no width, or no such place -/
theorem take_range (v : Value) (l : List UInt8) (at_ x : Int) (w : World) (A : Nat → Addr) {S : Nat → Prop} [Has S 1] [Has S 2] (hs : SentsOn S w A) (hb : BytesAt w v l) (h : Fld.right x = false ∨ at_ < 0 ∨ (l.length : Int) < at_) :
    Calls Tryz.prog 104 #[v, .int .i64 at_, .int .i64 x] w fun e w' => Fails2 (.int .u64 0) A w.heap.size [-1] 2 e w' ∧ Below w.heap.size w w' := by
  obtain ⟨a, c, rfl, hlc, hcm, hl⟩ := hb
  unfold maxLen at hcm
  clear hl
  have g2 : w.cell? ⟨1, 0, none⟩ = some (.iface 176 (.pointer (some (A 2)))) := hs.cell 2 (by decide) (by decide)
  have HE := Lib.hid (sent_err (w := w) (A := A) (B := w.heap.size) 2 (by decide) (by decide))
  by_cases hr : Fld.right x = true
  · by_cases h0 : at_ < 0
    · clear h
      go_enter Tryz.func104, Tryz.ntmps104
      go_wp2_with (first | (go_at_call 98; refine (right_any _ _).mono ?_; rintro e w' ⟨rfl, rfl⟩) | (go_at_call 41; refine (faultNew_any _ 2 _ _ A _ HE.out (by decide) (Nat.le_refl _)).mono ?_; rintro e w' ⟨⟨v1, rfl, he⟩, hb⟩))
      go_ret2
      exact ⟨⟨_, rfl, he⟩, hb⟩
    · have h1 : (l.length : Int) < at_ := by
        rcases h with h | h | h
        · rw [hr] at h; cases h
        · exact absurd h h0
        · exact h
      clear h
      go_enter Tryz.func104, Tryz.ntmps104
      go_wp2_with (first | (go_at_call 98; refine (right_any _ _).mono ?_; rintro e w' ⟨rfl, rfl⟩) | (go_at_call 41; refine (faultNew_any _ 2 _ _ A _ HE.out (by decide) (Nat.le_refl _)).mono ?_; rintro e w' ⟨⟨v1, rfl, he⟩, hb⟩))
      go_ret2
      exact ⟨⟨_, rfl, he⟩, hb⟩
  · have hr : Fld.right x = false := by simpa using hr
    clear h
    go_enter Tryz.func104, Tryz.ntmps104
    go_wp2_with (first | (go_at_call 98; refine (right_any _ _).mono ?_; rintro e w' ⟨rfl, rfl⟩) | (go_at_call 41; refine (faultNew_any _ 2 _ _ A _ HE.out (by decide) (Nat.le_refl _)).mono ?_; rintro e w' ⟨⟨v1, rfl, he⟩, hb⟩))
    go_ret2
    exact ⟨⟨_, rfl, he⟩, hb⟩

/-- fewer bytes than are wanted -/
theorem take_form (v : Value) (l : List UInt8) (at_ x : Nat) (w : World) (A : Nat → Addr) {S : Nat → Prop} [Has S 1] [Has S 2] (hs : SentsOn S w A) (hb : BytesAt w v l) (hx : Fld.right (x : Int) = true) (h1 : at_ ≤ l.length) (h2 : l.length < at_ + x) :
    Calls Tryz.prog 104 #[v, .int .i64 (at_ : Int), .int .i64 (x : Int)] w fun e w' => Fails2 (.int .u64 0) A w.heap.size [-1] 1 e w' ∧ Below w.heap.size w w' := by
  obtain ⟨a, c, rfl, hlc, hcm, hl⟩ := hb
  unfold maxLen at hcm
  clear hl
  have g1 : w.cell? ⟨2, 0, none⟩ = some (.iface 176 (.pointer (some (A 1)))) := hs.cell 1 (by decide) (by decide)
  have HE := Lib.hid (sent_err (w := w) (A := A) (B := w.heap.size) 1 (by decide) (by decide))
  have hx8 : x ≤ 8 := by rcases Fld.right_cases hx with h | h | h | h <;> omega
  have q1 : (at_ : Int) ≤ (l.length : Int) := by omega
  have q2 : (l.length : Int) - (at_ : Int) < (x : Int) := by omega
  go_enter Tryz.func104, Tryz.ntmps104
  go_wp2_with (first | (go_at_call 98; refine (right_any _ _).mono ?_; rintro e w' ⟨rfl, rfl⟩) | (go_at_call 41; refine (faultNew_any _ 1 _ _ A _ HE.out (by decide) (Nat.le_refl _)).mono ?_; rintro e w' ⟨⟨v1, rfl, he⟩, hb⟩))
  go_ret2
  exact ⟨⟨_, rfl, he⟩, hb⟩
end Go.Proofs.YtflbioiildndoaaGreatDoor

/- the walks of the document's field -/
namespace Go.Proofs.YtflbioiildndoaaGreatDoor
open Go.RowKit

theorem refRight_any (x : Int) (w : World) : Calls Tryz.prog 89 #[.int .i64 x] w fun e w' => e = .returned (.bool (Fld.right x)) ∧ w = w' := by
  cases h : Fld.right x with
  | true =>
    rcases Fld.right_cases h with rfl | rfl | rfl | rfl <;>
    · go_enter Tryz.func89, Tryz.ntmps89
      go_wp2
      go_ret
      exact ⟨rfl, rfl⟩
  | false =>
    obtain ⟨h1, h2, h4, h8⟩ := Fld.right_not h
    have b1 : (x == 1) = false := by simp [h1]
    have b2 : (x == 2) = false := by simp [h2]
    have b4 : (x == 4) = false := by simp [h4]
    have b8 : (x == 8) = false := by simp [h8]
    clear h1 h2 h4 h8 h
    go_enter Tryz.func89, Tryz.ntmps89
    go_wp2
    go_ret
    exact ⟨rfl, rfl⟩

theorem nRest_fits (n x : Nat) : (nRest n x == 0) = decide (n < 256 ^ x) := by
  unfold nRest
  rw [Bool.eq_iff_iff, beq_iff_eq, decide_eq_true_iff]
  have hp : 0 < 256 ^ x := Nat.pow_pos (by omega)
  constructor
  · intro h
    have h' : n / 256 ^ x = 0 := by omega
    rcases Nat.div_eq_zero_iff.1 h' with h | h
    · omega
    · exact h
  · intro h
    rw [Nat.div_eq_of_lt h]; rfl
theorem fits_any (n x : Nat) (hx : x ≤ 8) (hn : n < 18446744073709551616) (w : World) :
    Calls Tryz.prog 90 #[.int .u64 (n : Int), .int .i64 (x : Int)] w fun e w' => e = .returned (.bool (decide (n < 256 ^ x))) ∧ w = w' := by
  go_enter Tryz.func90, Tryz.ntmps90
  go_wp2
  go_loop [0, 5] (fun m i => ∃ k : Nat, k ≤ x ∧ i = .int .i64 k ∧ m = .int .u64 (nRest n k)) (fun _ i => x - (intOf i).toNat)
  case atStart => exact ⟨0, by omega, rfl, by rw [nRest_zero]⟩
  case round =>
    obtain ⟨k, hk, rfl, rfl⟩ := hrel
    have hbd := nRest_bd n k hn
    by_cases hlt : k < x
    · have h8 : (k : Int) < 8 := by omega
      have hlt2 : (k : Int) < (x : Int) := by omega
      go_wp2
      go_round
      case rel => exact ⟨k + 1, by omega, by go_num, by rw [nRest_next]⟩
      case measure => simp [intOf]; omega
    · have hkx : k = x := by omega
      subst hkx
      go_wp2
      go_ret
      exact ⟨ret_bool (nRest_fits n k), rfl⟩

def GivesBytesC (w : World) (l : List UInt8) (e : Ending) (w' : World) : Prop := ∃ v, e = .returned (.tuple #[v, .int .i64 0]) ∧ Own w' w.heap.size v l
theorem GivesBytesC.seen {w w' : World} {l : List UInt8} {e : Ending} (h : GivesBytesC w l e w') : ∃ a c, e = .returned (.tuple #[.slice a l.length c, .int .i64 0]) ∧ Own w' w.heap.size (.slice a l.length c) l := by
  obtain ⟨v, rfl, ho⟩ := h
  obtain ⟨a, c, rfl, _, _⟩ := ho.slice
  exact ⟨a, c, rfl, ho⟩
set_option maxHeartbeats 1000000 in
theorem refPut_ok (v : Value) (l : List UInt8) (n : Nat) (x : Nat) (w : World) (hb : BytesAt w v l) (hx : Fld.right (x : Int) = true) (hn : n < 256 ^ x) (hn64 : n < 18446744073709551616) (hlen : l.length ≤ 140737488351232) :
    Calls Tryz.prog 78 #[v, .int .u64 (n : Int), .int .i64 (x : Int)] w fun e w' => GivesBytesC w (l ++ Fld.le x n) e w' ∧ Below w.heap.size w w' := by
  have HB := Lib.hid hb
  have hx8 : x ≤ 8 := by rcases Fld.right_cases hx with h | h | h | h <;> omega
  have hd : decide (n < 256 ^ x) = true := decide_eq_true hn
  clear hb
  go_enter Tryz.func78, Tryz.ntmps78
  go_wp2_with (first | (go_at_call 89; refine (refRight_any _ _).mono ?_; rintro e w' ⟨rfl, rfl⟩) | (go_at_call 90; refine (fits_any n x hx8 hn64 _).mono ?_; rintro e w' ⟨rfl, rfl⟩) | (at_builtin; refine wpList_append_bytes rfl (.tmp 19) (.tmp 20) rfl w.heap.size _ [] rfl (Own.empty w _ (Nat.le_refl _)) _ l rfl (HB.out.alloc _) (by simp; omega) (by simp) ?_))
  intro v1 w1 hown hgrow _
  have hbel := ((Below.refl w.heap.size w).alloc (Nat.le_refl _) (.cells #[] 5)).grown hgrow (by simp) (by intro k hk; simp [Value.ownBlock] at hk; omega)
  have HO := Lib.hid hown
  clear hgrow hown hd
  go_wp2
  go_loopw [8, 1, 9] (fun o m i wr => ∃ k : Nat, k ≤ x ∧ i = .int .i64 k ∧ m = .int .u64 (nRest n k) ∧ Own wr w.heap.size o (l ++ Fld.le k n) ∧ Below w.heap.size w wr) (fun _ _ i _ => x - (intOf i).toNat)
  case atStart => exact ⟨0, by omega, rfl, by rw [nRest_zero], by simpa [Fld.le] using HO.out, hbel⟩
  case round =>
    obtain ⟨k, hk, rfl, rfl, ho, hbr⟩ := hrel
    have HO2 := Lib.hid ho
    have hbd := nRest_bd n k hn64
    have hsz := hbr.size
    clear ho
    by_cases hlt : k < x
    · have HB1 := Lib.hid (one_byte wr (UInt8.ofNat (n / 256 ^ k)) _ (nRest_byte n k) 5)
      have hll : (l ++ Fld.le k n).length + 1 ≤ 140737488355328 := by rw [List.length_append, Fld.le_length]; omega
      go_wp2_with (at_builtin; refine wpList_append_bytes rfl (.tmp 27) (.tmp 31) rfl w.heap.size _ (l ++ Fld.le k n) rfl (HO2.out.alloc _) _ [UInt8.ofNat (n / 256 ^ k)] rfl HB1.out hll (by simp; omega) ?_)
      intro v2 w2 hown hgrow _
      have hb2 := (hbr.alloc hsz (.cells #[.int .u8 (nRest n k % 256)] 5)).grown hgrow (by simp; omega) (fun j hj => (HO2.out.lt j hj).1)
      have HO3 := Lib.hid hown
      clear hgrow hown
      go_wp2
      go_roundw
      case rel => exact ⟨k + 1, by omega, by go_num, by rw [nRest_next], by rw [Fld.le_snoc]; exact HO3.out, hb2⟩
      case measure => simp [intOf]; omega
    · have hkx : k = x := by omega
      subst hkx
      go_wp2
      go_ret2
      exact ⟨⟨_, rfl, HO2.out⟩, hbr⟩
theorem refPut_bad (v : Value) (n : Nat) (x : Int) (w : World) (hn64 : n < 18446744073709551616) (hx : Fld.right x = false ∨ ¬ n < 256 ^ x.toNat) :
    Calls Tryz.prog 78 #[v, .int .u64 (n : Int), .int .i64 x] w fun e w' => Gives (.slice none 0 0) (.int .i64 2) e ∧ w = w' := by
  by_cases hr : Fld.right x = true
  · have hb : ¬ n < 256 ^ x.toNat := by
      rcases hx with h | h
      · rw [hr] at h; cases h
      · exact h
    obtain ⟨m, rfl⟩ : ∃ m : Nat, x = (m : Int) := ⟨x.toNat, by rcases Fld.right_cases hr with h | h | h | h <;> omega⟩
    rw [Int.toNat_natCast] at hb
    have hx8 : m ≤ 8 := by rcases Fld.right_cases hr with h | h | h | h <;> omega
    have hd : decide (n < 256 ^ m) = false := decide_eq_false hb
    clear hb hx
    go_enter Tryz.func78, Tryz.ntmps78
    go_wp2_with (first | (go_at_call 89; refine (refRight_any _ _).mono ?_; rintro e w' ⟨rfl, rfl⟩) | (go_at_call 90; refine (fits_any n m hx8 hn64 _).mono ?_; rintro e w' ⟨rfl, rfl⟩))
    go_ret2
    exact ⟨rfl, rfl⟩
  · have hr : Fld.right x = false := by simpa using hr
    clear hx
    go_enter Tryz.func78, Tryz.ntmps78
    go_wp2_with (first | (go_at_call 89; refine (refRight_any _ _).mono ?_; rintro e w' ⟨rfl, rfl⟩))
    go_ret2
    exact ⟨rfl, rfl⟩

/-- what has been taken of the first j bytes; the scale of the next one -/
def tkN (l : List UInt8) (at_ j : Nat) : Int := ((Fld.unle ((l.drop at_).take j) : Nat) : Int)
def scN (j : Nat) : Int := ((256 ^ j % 18446744073709551616 : Nat) : Int)
theorem tkN_step (l : List UInt8) (at_ j : Nat) (y : UInt8) (hj : j < 8) (h : l[at_ + j]? = some y) :
    IntKind.u64.wrap (tkN l at_ j + IntKind.u64.wrap (y.toNat * scN j)) = tkN l at_ (j + 1) := by
  have hlt : at_ + j < l.length := (List.getElem?_eq_some_iff.1 h).1
  have e : (l.drop at_).take (j + 1) = (l.drop at_).take j ++ [y] := by
    rw [List.take_add_one, List.getElem?_drop, h]; rfl
  have hl : ((l.drop at_).take j).length = j := by simp; omega
  have h2 := Fld.unle_lt ((l.drop at_).take j)
  rw [hl] at h2
  have hp : 256 ^ j ≤ 256 ^ 7 := Nat.pow_le_pow_right (by omega) (by omega)
  have hs : scN j = ((256 ^ j : Nat) : Int) := by
    unfold scN
    rw [Nat.mod_eq_of_lt (by omega)]
  have hm : y.toNat * 256 ^ j ≤ 255 * 256 ^ j := Nat.mul_le_mul_right _ (by have := y.toNat_lt; omega)
  unfold tkN
  rw [e, Fld.unle_append, hl, hs]
  simp only [Fld.unle, Nat.mul_zero, Nat.add_zero]
  rw [Nat.mul_comm (256 ^ j)]
  rw [← Int.natCast_mul]
  generalize y.toNat * 256 ^ j = P at *
  generalize Fld.unle ((l.drop at_).take j) = M at *
  rw [IntKind.wrap_u64, IntKind.wrap_u64]
  omega
theorem scN_step (j : Nat) : IntKind.u64.wrap (scN j * 256) = scN (j + 1) := by
  unfold scN
  rw [IntKind.wrap_u64, Nat.pow_succ]
  generalize 256 ^ j = P
  omega

set_option maxHeartbeats 1000000 in
theorem refTake_ok (v : Value) (l : List UInt8) (at_ x : Nat) (w : World) (hb : BytesAt w v l) (hx : Fld.right (x : Int) = true) (hat : at_ + x ≤ l.length) :
    Calls Tryz.prog 100 #[v, .int .i64 (at_ : Int), .int .i64 (x : Int)] w fun e w' => Gives (.int .u64 ((Fld.unle ((l.drop at_).take x) : Nat) : Int)) (.int .i64 0) e ∧ w = w' := by
  obtain ⟨a, c, rfl, hlc, hcm, hl⟩ := hb
  unfold maxLen at hcm
  have HL := Lib.hid hl
  clear hl
  have hx8 : x ≤ 8 := by rcases Fld.right_cases hx with h | h | h | h <;> omega
  have hx1 : 1 ≤ x := by rcases Fld.right_cases hx with h | h | h | h <;> omega
  have q1 : (at_ : Int) ≤ (l.length : Int) := by omega
  have q2 : (x : Int) ≤ (l.length : Int) - (at_ : Int) := by omega
  go_enter Tryz.func100, Tryz.ntmps100
  go_wp2_with (first | (go_at_call 89; refine (refRight_any _ _).mono ?_; rintro e w' ⟨rfl, rfl⟩))
  go_loop [8, 9, 10] (fun m s i => ∃ j : Nat, j ≤ x ∧ i = .int .i64 (j : Int) ∧ m = .int .u64 (tkN l at_ j) ∧ s = .int .u64 (scN j)) (fun _ _ i => x - (intOf i).toNat)
  case atStart => exact ⟨0, by omega, rfl, by simp [tkN, Fld.unle], rfl⟩
  case round =>
    obtain ⟨j, hj, rfl, rfl, rfl⟩ := hrel
    by_cases hlt : j < x
    · obtain ⟨y, hy⟩ := getElem?_some_of_lt (show at_ + j < l.length by omega)
      rcases HL.out with hn | ⟨b, o, rfl, hc⟩
      · rw [hn] at hat; simp at hat; omega
      have hcy := hc (at_ + j) y hy
      have HY := Lib.hid (tkN_step l at_ j y (by omega) hy)
      have hyb := y.toNat_lt
      clear hc hy
      go_wp2
      go_round
      case rel => exact ⟨j + 1, by omega, by go_num, by rw [HY.out], by rw [scN_step]⟩
      case measure => simp [intOf]; omega
    · have hjx : j = x := by omega
      subst hjx
      go_wp2
      go_ret2
      exact ⟨rfl, rfl⟩
theorem refTake_range (v : Value) (l : List UInt8) (at_ x : Int) (w : World) (hb : BytesAt w v l) (h : Fld.right x = false ∨ at_ < 0 ∨ (l.length : Int) < at_) :
    Calls Tryz.prog 100 #[v, .int .i64 at_, .int .i64 x] w fun e w' => Gives (.int .u64 0) (.int .i64 2) e ∧ w = w' := by
  obtain ⟨a, c, rfl, hlc, hcm, hl⟩ := hb
  unfold maxLen at hcm
  clear hl
  by_cases hr : Fld.right x = true
  · by_cases h0 : at_ < 0
    · clear h
      go_enter Tryz.func100, Tryz.ntmps100
      go_wp2_with (first | (go_at_call 89; refine (refRight_any _ _).mono ?_; rintro e w' ⟨rfl, rfl⟩))
      go_ret2
      exact ⟨rfl, rfl⟩
    · have h1 : (l.length : Int) < at_ := by
        rcases h with h | h | h
        · rw [hr] at h; cases h
        · exact absurd h h0
        · exact h
      clear h
      go_enter Tryz.func100, Tryz.ntmps100
      go_wp2_with (first | (go_at_call 89; refine (refRight_any _ _).mono ?_; rintro e w' ⟨rfl, rfl⟩))
      go_ret2
      exact ⟨rfl, rfl⟩
  · have hr : Fld.right x = false := by simpa using hr
    clear h
    go_enter Tryz.func100, Tryz.ntmps100
    go_wp2_with (first | (go_at_call 89; refine (refRight_any _ _).mono ?_; rintro e w' ⟨rfl, rfl⟩))
    go_ret2
    exact ⟨rfl, rfl⟩
theorem refTake_form (v : Value) (l : List UInt8) (at_ x : Nat) (w : World) (hb : BytesAt w v l) (hx : Fld.right (x : Int) = true) (h1 : at_ ≤ l.length) (h2 : l.length < at_ + x) :
    Calls Tryz.prog 100 #[v, .int .i64 (at_ : Int), .int .i64 (x : Int)] w fun e w' => Gives (.int .u64 0) (.int .i64 1) e ∧ w = w' := by
  obtain ⟨a, c, rfl, hlc, hcm, hl⟩ := hb
  unfold maxLen at hcm
  clear hl
  have hx8 : x ≤ 8 := by rcases Fld.right_cases hx with h | h | h | h <;> omega
  have q1 : (at_ : Int) ≤ (l.length : Int) := by omega
  have q2 : (l.length : Int) - (at_ : Int) < (x : Int) := by omega
  go_enter Tryz.func100, Tryz.ntmps100
  go_wp2_with (first | (go_at_call 89; refine (refRight_any _ _).mono ?_; rintro e w' ⟨rfl, rfl⟩))
  go_ret2
  exact ⟨rfl, rfl⟩
end Go.Proofs.YtflbioiildndoaaGreatDoor

/- numbers of package field and of its document, each call by one contract: what is told is one function of the input -/
namespace Go.Proofs.YtflbioiildndoaaGreatDoor
open Go.RowKit

/-- bytes in new memory, and an error of a code -/
def BytesErr (w : World) (A : Nat → Addr) (l : List UInt8) (k : Nat) (e : Ending) (w' : World) : Prop :=
  ∃ a c ev lp, e = .returned (.tuple #[.slice a l.length c, ev]) ∧ Own w' w.heap.size (.slice a l.length c) l ∧ ErrIs w' A w.heap.size lp k ev
/-- bytes in new memory, and a code -/
def BytesCode (w : World) (l : List UInt8) (k : Nat) (e : Ending) (w' : World) : Prop :=
  ∃ a c, e = .returned (.tuple #[.slice a l.length c, .int .i64 (k : Int)]) ∧ Own w' w.heap.size (.slice a l.length c) l
def NumErr (w : World) (A : Nat → Addr) (n : Nat) (k : Nat) (e : Ending) (w' : World) : Prop :=
  ∃ ev lp, e = .returned (.tuple #[.int .u64 (n : Int), ev]) ∧ ErrIs w' A w.heap.size lp k ev

/-- Put, Take as the document says them: what is told, the code -/
def putS (l : List UInt8) (n : Nat) (x : Int) : List UInt8 × Nat := if Fld.right x = true ∧ n < 256 ^ x.toNat then (l ++ Fld.le x.toNat n, 0) else ([], 2)
def takeS (l : List UInt8) (at_ x : Int) : Nat × Nat :=
  if Fld.right x = false ∨ at_ < 0 ∨ (l.length : Int) < at_ then (0, 2) else if l.length < at_.toNat + x.toNat then (0, 1) else (Fld.unle ((l.drop at_.toNat).take x.toNat), 0)

theorem nil_own (w w' : World) : Own w' w.heap.size (.slice none ([] : List UInt8).length 0) [] := Own.nil w' _

theorem put_any (v : Value) (l : List UInt8) (n : Nat) (x : Int) (w : World) (A : Nat → Addr) {S : Nat → Prop} [Has S 1] [Has S 2] (hs : SentsOn S w A) (hb : BytesAt w v l) (hn : n < 18446744073709551616) (hlen : l.length ≤ 140737488351232) :
    Calls Tryz.prog 87 #[v, .int .u64 (n : Int), .int .i64 x] w fun e w' => BytesErr w A (putS l n x).1 (putS l n x).2 e w' ∧ Below w.heap.size w w' := by
  unfold putS
  split
  · rename_i h
    obtain ⟨m, rfl⟩ : ∃ m : Nat, x = (m : Int) := ⟨x.toNat, by rcases Fld.right_cases h.1 with h | h | h | h <;> omega⟩
    refine (put_ok v l n m w hb h.1 (by simpa using h.2) hn hlen).mono fun e w' ⟨hg, hb⟩ => ⟨?_, hb⟩
    obtain ⟨a, c, rfl, ho⟩ := hg.seen
    exact ⟨a, c, _, [], rfl, by simpa using ho, ErrIs.nil _ _ _⟩
  · rename_i h
    refine (put_bad v n x w A hs hn ?_).mono fun e w' ⟨⟨ev, he, hE⟩, hb⟩ => ⟨⟨none, 0, ev, _, he, nil_own w w', hE⟩, hb⟩
    cases hr : Fld.right x with
    | false => exact .inl rfl
    | true => exact .inr fun h2 => h ⟨hr, h2⟩
theorem refPut_any (v : Value) (l : List UInt8) (n : Nat) (x : Int) (w : World) (hb : BytesAt w v l) (hn : n < 18446744073709551616) (hlen : l.length ≤ 140737488351232) :
    Calls Tryz.prog 78 #[v, .int .u64 (n : Int), .int .i64 x] w fun e w' => BytesCode w (putS l n x).1 (putS l n x).2 e w' ∧ Below w.heap.size w w' := by
  unfold putS
  split
  · rename_i h
    obtain ⟨m, rfl⟩ : ∃ m : Nat, x = (m : Int) := ⟨x.toNat, by rcases Fld.right_cases h.1 with h | h | h | h <;> omega⟩
    refine (refPut_ok v l n m w hb h.1 (by simpa using h.2) hn hlen).mono fun e w' ⟨hg, hb⟩ => ⟨?_, hb⟩
    obtain ⟨a, c, rfl, ho⟩ := hg.seen
    exact ⟨a, c, rfl, by simpa using ho⟩
  · rename_i h
    refine (refPut_bad v n x w hn ?_).mono fun e w' ⟨he, hw⟩ => ⟨⟨none, 0, he, nil_own w w'⟩, Below.of_eq hw⟩
    cases hr : Fld.right x with
    | false => exact .inl rfl
    | true => exact .inr fun h2 => h ⟨hr, h2⟩
theorem take_any (v : Value) (l : List UInt8) (at_ x : Int) (w : World) (A : Nat → Addr) {S : Nat → Prop} [Has S 1] [Has S 2] (hs : SentsOn S w A) (hb : BytesAt w v l) :
    Calls Tryz.prog 104 #[v, .int .i64 at_, .int .i64 x] w fun e w' => NumErr w A (takeS l at_ x).1 (takeS l at_ x).2 e w' ∧ Below w.heap.size w w' := by
  unfold takeS
  split
  · rename_i h
    exact (take_range v l at_ x w A hs hb h).mono fun e w' ⟨⟨ev, he, hE⟩, hb⟩ => ⟨⟨ev, _, he, hE⟩, hb⟩
  · rename_i h
    have hr : Fld.right x = true := by cases hr : Fld.right x with | false => exact absurd (.inl hr) h | true => rfl
    obtain ⟨m, rfl⟩ : ∃ m : Nat, x = (m : Int) := ⟨x.toNat, by rcases Fld.right_cases hr with h | h | h | h <;> omega⟩
    obtain ⟨p, rfl⟩ : ∃ p : Nat, at_ = (p : Int) := ⟨at_.toNat, by have : ¬ at_ < 0 := fun h2 => h (.inr (.inl h2)); omega⟩
    have hp : p ≤ l.length := by have : ¬ (l.length : Int) < (p : Int) := fun h2 => h (.inr (.inr h2)); omega
    simp only [Int.toNat_natCast]
    split
    · exact (take_form v l p m w A hs hb hr hp (by assumption)).mono fun e w' ⟨⟨ev, he, hE⟩, hb⟩ => ⟨⟨ev, _, he, hE⟩, hb⟩
    · exact (take_ok v l p m w hb hr (by omega)).mono fun e w' ⟨he, hw⟩ => ⟨⟨_, [], he, ErrIs.nil _ _ _⟩, Below.of_eq hw⟩
theorem refTake_any (v : Value) (l : List UInt8) (at_ x : Int) (w : World) (hb : BytesAt w v l) :
    Calls Tryz.prog 100 #[v, .int .i64 at_, .int .i64 x] w fun e w' => Gives (.int .u64 ((takeS l at_ x).1 : Int)) (.int .i64 ((takeS l at_ x).2 : Int)) e ∧ w = w' := by
  unfold takeS
  split
  · rename_i h
    exact refTake_range v l at_ x w hb h
  · rename_i h
    have hr : Fld.right x = true := by cases hr : Fld.right x with | false => exact absurd (.inl hr) h | true => rfl
    obtain ⟨m, rfl⟩ : ∃ m : Nat, x = (m : Int) := ⟨x.toNat, by rcases Fld.right_cases hr with h | h | h | h <;> omega⟩
    obtain ⟨p, rfl⟩ : ∃ p : Nat, at_ = (p : Int) := ⟨at_.toNat, by have : ¬ at_ < 0 := fun h2 => h (.inr (.inl h2)); omega⟩
    have hp : p ≤ l.length := by have : ¬ (l.length : Int) < (p : Int) := fun h2 => h (.inr (.inr h2)); omega
    simp only [Int.toNat_natCast]
    split
    · exact refTake_form v l p m w hb hr hp (by assumption)
    · exact refTake_ok v l p m w hb hr (by omega)
end Go.Proofs.YtflbioiildndoaaGreatDoor

/- the walks of the check sum: crc.Entry, crc.More, crc.Sum, crc.Holds -/
namespace Go.Proofs.YtflbioiildndoaaGreatDoor
open Go.RowKit

theorem even_bit (q : BitVec 32) : (bits .and .u32 (q.toNat : Int) 1 == 1) = q.getLsbD 0 := by
  have h1 : (1 : Int) = ((1#32).toNat : Int) := rfl
  have := bits_and_u32 q 1#32
  rw [← h1] at this
  rw [this]
  have e : (q &&& 1#32).toNat = q.toNat % 2 := by
    rw [BitVec.toNat_and]; exact Nat.and_one_is_mod _
  rw [e]
  have : q.getLsbD 0 = decide (q.toNat % 2 = 1) := by
    rw [BitVec.getLsbD, Nat.testBit_zero]
  rw [this, Bool.eq_iff_iff]
  simp
  omega
theorem entry_yes (q : BitVec 32) (h : (bits .and .u32 (q.toNat : Int) 1 == 1) = true) : bits .xor .u32 ((q.toNat : Int) / 2) 3988292384 = ((Crc.st q).toNat : Int) := by
  rw [even_bit] at h
  have e : ((q.toNat : Int) / (2 : Int)) = ((q >>> 1).toNat : Int) := by
    rw [BitVec.toNat_ushiftRight, Nat.shiftRight_eq_div_pow]; omega
  rw [e]
  have := bits_xor_u32 (q >>> 1) Crc.poly
  have hp : ((Crc.poly.toNat : Nat) : Int) = 3988292384 := rfl
  rw [hp] at this
  rw [this]
  unfold Crc.st
  rw [if_pos h]
theorem entry_no (q : BitVec 32) (h : (bits .and .u32 (q.toNat : Int) 1 == 1) = false) : ((q.toNat : Int) / 2) = ((Crc.st q).toNat : Int) := by
  rw [even_bit] at h
  have e : ((q.toNat : Int) / (2 : Int)) = ((q >>> 1).toNat : Int) := by
    rw [BitVec.toNat_ushiftRight, Nat.shiftRight_eq_div_pow]; omega
  rw [e]
  unfold Crc.st
  rw [h]
  simp

theorem ret_u32 {a b : Int} (h : a = b) : Ending.returned (.int .u32 a) = .returned (.int .u32 b) := by rw [h]

theorem entry_any (n : UInt8) (z : Int) (hz : z = (n.toNat : Int)) (w : World) :
    Calls Tryz.prog 103 #[.int .u8 z] w fun e w' => e = .returned (.int .u32 ((Crc.entry n).toNat : Int)) ∧ w = w' := by
  subst hz
  go_enter Tryz.func103, Tryz.ntmps103
  go_wp2
  go_loop [3, 7] (fun r i => ∃ k : Nat, k ≤ 8 ∧ i = .int .i64 k ∧ ∃ q : BitVec 32, Crc.itn (8 - k) q = Crc.entry n ∧ r = .int .u32 q.toNat) (fun _ i => 8 - (intOf i).toNat)
  case atStart => exact ⟨0, by omega, rfl, n.toBitVec.setWidth 32, rfl, by congr 1; have := n.toNat_lt; simp; omega⟩
  case round =>
    obtain ⟨k, hk, rfl, q, hq, rfl⟩ := hrel
    have HQ : Hid (Crc.itn (8 - k) q = Crc.entry n) := hq
    clear hq
    go_wp2
    · go_round
      case rel => exact ⟨k + 1, by omega, by go_num, Crc.st q, by rw [← HQ.out, show 8 - k = (8 - (k + 1)) + 1 from by omega]; rfl, by rw [entry_yes q (by assumption)]⟩
      case measure => simp [intOf]; omega
    · go_round
      case rel => exact ⟨k + 1, by omega, by go_num, Crc.st q, by rw [← HQ.out, show 8 - k = (8 - (k + 1)) + 1 from by omega]; rfl, by rw [entry_no q (by assumption)]⟩
      case measure => simp [intOf]; omega
    · go_ret
      have : k = 8 := by omega
      subst this
      exact ⟨ret_u32 (by rw [← HQ.out]; rfl), rfl⟩

theorem upd_spell (r : BitVec 32) (x : UInt8) (e : BitVec 32) (he : e = Crc.entry (UInt8.ofBitVec (r.setWidth 8) ^^^ x)) :
    bits .xor .u32 ((r.toNat : Int) / 256) (e.toNat : Int) = ((Crc.upd r x).toNat : Int) := by
  have e1 : ((r.toNat : Int) / (256 : Int)) = ((r >>> 8).toNat : Int) := by
    rw [BitVec.toNat_ushiftRight, Nat.shiftRight_eq_div_pow]; omega
  rw [e1, bits_xor_u32, he]; rfl
theorem low_spell (r : BitVec 32) (x : UInt8) : bits .xor .u8 ((r.toNat : Int) % 256) (x.toNat : Int) = ((UInt8.ofBitVec (r.setWidth 8) ^^^ x).toNat : Int) := by
  have e1 : ((r.toNat : Int) % (256 : Int)) = ((UInt8.ofBitVec (r.setWidth 8)).toNat : Int) := by
    simp
  rw [e1, bits_xor_u8]
theorem run_take {r : BitVec 32} {l : List UInt8} {k : Nat} {x : UInt8} (h : l[k]? = some x) : Crc.run r (l.take (k + 1)) = Crc.upd (Crc.run r (l.take k)) x := by
  rw [List.take_add_one, h]
  simp [Crc.run]

theorem not_spell (s : BitVec 32) : bits .xor .u32 IntKind.u32.max (s.toNat : Int) = ((~~~s).toNat : Int) := by
  have h : IntKind.u32.max = (((BitVec.allOnes 32).toNat : Nat) : Int) := rfl
  rw [h, bits_xor_u32, BitVec.allOnes_xor]

set_option maxHeartbeats 400000 in
theorem more_any (s : BitVec 32) (v : Value) (l : List UInt8) (w : World) (hb : BytesAt w v l) :
    Calls Tryz.prog 99 #[.int .u32 (s.toNat : Int), v] w fun e w' => e = .returned (.int .u32 ((Crc.more s l).toNat : Int)) ∧ w = w' := by
  obtain ⟨a, c, rfl, hlc, hcm, hl⟩ := hb
  unfold maxLen at hcm
  have hns := not_spell s
  have HL : Hid (l = [] ∨ ∃ b o, a = some ⟨b, o, none⟩ ∧ ∀ i x, l[i]? = some x → w.cell? ⟨b, o + i, none⟩ = some (.int .u8 (x.toNat : Int))) := hl
  clear hl
  go_enter Tryz.func99, Tryz.ntmps99
  go_wp2
  clear hns
  go_loop [5, 12] (fun r i => ∃ k : Nat, k ≤ l.length ∧ i = .int .i64 k ∧ r = .int .u32 ((Crc.run (~~~s) (l.take k)).toNat : Int)) (fun _ i => l.length - (intOf i).toNat)
  case atStart => exact ⟨0, by omega, rfl, by show _ = Value.int .u32 ((~~~s).toNat : Int); rw [BitVec.toNat_not]⟩
  case round =>
    obtain ⟨k, hk, rfl, rfl⟩ := hrel
    by_cases hlt : k < l.length
    · obtain ⟨x, hx⟩ := getElem?_some_of_lt hlt
      rcases HL.out with hn | ⟨b, o, rfl, hc⟩
      · rw [hn] at hlt; simp at hlt
      have hcx := hc k x hx
      have HX : Hid (l[k]? = some x) := hx
      clear hc hx
      generalize hr : Crc.run (~~~s) (l.take k) = r
      have HR : Hid (Crc.run (~~~s) (l.take k) = r) := hr
      clear hr
      go_wp2_with (go_at_call 103; refine (entry_any (UInt8.ofBitVec (r.setWidth 8) ^^^ x) _ (low_spell r x) _).mono ?_; rintro e w' ⟨rfl, rfl⟩)
      go_round
      case rel => exact ⟨k + 1, by omega, by go_num, by rw [run_take HX.out, HR.out, upd_spell r x _ rfl]⟩
      case measure => simp [intOf]; omega
    · have hk2 : k = l.length := by omega
      subst hk2
      go_wp2
      go_ret
      exact ⟨ret_u32 (by rw [not_spell]; rfl), rfl⟩

theorem sum_any (v : Value) (l : List UInt8) (w : World) (hb : BytesAt w v l) :
    Calls Tryz.prog 88 #[v] w fun e w' => e = .returned (.int .u32 ((Crc.sum l).toNat : Int)) ∧ w = w' := by
  go_enter Tryz.func88, Tryz.ntmps88
  go_wp2_with (go_at_call 99; refine (more_any 0#32 v l _ hb).mono ?_; rintro e w' ⟨rfl, rfl⟩)
  go_ret
  exact ⟨rfl, rfl⟩

theorem sum_wf (l : List UInt8) : ((Crc.sum l).toNat : Int) < 4294967296 := by have := (Crc.sum l).isLt; omega
end Go.Proofs.YtflbioiildndoaaGreatDoor

/- the walks of errors.is, errors.Is, fault.Code -/
namespace Go.Proofs.YtflbioiildndoaaGreatDoor
open Go.RowKit Go.Extern.Stop Go.Stop Go.Extern

theorem Tryz.isTypeOf (v : Value) (w : World) : (Extern.ReflectliteType.typeOf #[.iface 176 v]).run Tryz.prog w = .ok (.iface 164 (.agg #[.pointer (some ⟨9, 176, none⟩)])) w := by kernel_rfl
def isCmp : Array Value → Sem Value := Extern.ReflectliteType.method fun t => do Go.Extern.Rtype.noPackHeld "Comparable" t; pure (.bool (← typeInfo t).comparable)
theorem Tryz.isComparable (w : World) : (isCmp #[.agg #[.pointer (some ⟨9, 176, none⟩)]]).run Tryz.prog w = .ok (.bool true) w := by kernel_rfl
theorem Tryz.isComp : (Tryz.prog.info? 176).map (·.comparable) = some true := by kernel_rfl
theorem Tryz.isSize : (Tryz.prog.info? 200).map (·.size) = some 1 := by kernel_rfl
theorem Tryz.noIsE (v : Value) (xT : TypeId) (w : World) : (Instr.typeAssert (.iface 176 v) xT 166 true).run Tryz.prog w = .ok (.tuple #[.nilIface, .bool false]) w := run_typeAssert_lacksB Tryz.underlying166 (by kernel_rfl) (by kernel_rfl) v xT w
theorem Tryz.noUnwrapE (v : Value) (xT : TypeId) (w : World) : (Instr.typeAssert (.iface 176 v) xT 169 true).run Tryz.prog w = .ok (.tuple #[.nilIface, .bool false]) w := run_typeAssert_lacksB Tryz.underlying169 (by kernel_rfl) (by kernel_rfl) v xT w
theorem Tryz.noUnwrapsE (v : Value) (xT : TypeId) (w : World) : (Instr.typeAssert (.iface 176 v) xT 170 true).run Tryz.prog w = .ok (.tuple #[.nilIface, .bool false]) w := run_typeAssert_lacksB Tryz.underlying170 (by kernel_rfl) (by kernel_rfl) v xT w
theorem Tryz.noIsF (v : Value) (xT : TypeId) (w : World) : (Instr.typeAssert (.iface 133 v) xT 166 true).run Tryz.prog w = .ok (.tuple #[.nilIface, .bool false]) w := run_typeAssert_lacksB Tryz.underlying166 (by kernel_rfl) (by kernel_rfl) v xT w
theorem Tryz.hasUnwrapF (v : Value) (xT : TypeId) (w : World) : (Instr.typeAssert (.iface 133 v) xT 169 true).run Tryz.prog w = .ok (.tuple #[.iface 133 v, .bool true]) w := run_typeAssert_hasB Tryz.underlying169 (by kernel_rfl) v xT w

theorem is_any {w : World} {A : Nat → Addr} {B : Nat} (hs : Sents w A) (l : List Int) (k : Nat) (v : Value) (hc : Chain w A B l k v) (j : Nat) (hj1 : 1 ≤ j) (hj2 : j ≤ 9) :
    Calls Tryz.prog 97 #[v, .iface 176 (.pointer (some (A j))), .bool true] w fun e w' => e = .returned (.bool (k == j)) ∧ w = w' := by
  obtain ⟨i, hi, hcmp⟩ := Option.map_eq_some_iff.1 Tryz.isComp
  obtain ⟨i2, hi2, hjs⟩ := Option.map_eq_some_iff.1 Tryz.isSize
  obtain ⟨cj, tj, hrj⟩ := hs.row j hj1 hj2
  have nE := Tryz.noIsE
  have uE := Tryz.noUnwrapE
  have vE := Tryz.noUnwrapsE
  have nF := Tryz.noIsF
  have uF := Tryz.hasUnwrapF
  have HS := Lib.hid hs
  have HR := Lib.hid hrj
  have HC := Lib.hid hc
  clear hs hrj hc
  go_enter Tryz.func97, Tryz.ntmps97
  go_wp2
  go_loopg [0] l.length (fun n E' wl => wl = w ∧ ∃ l', l'.length = n ∧ Chain w A B l' k E')
  case atStart => exact ⟨rfl, l, rfl, HC.out⟩
  case round =>
    obtain ⟨rfl, l', hl', hc'⟩ := hrel
    have hk := hc'.le
    cases l' with
    | nil =>
      obtain ⟨_, rfl⟩ := hc'
      by_cases hkj : k = j
      · subst hkj
        have heq := run_eql_iface_ptr_same (P := Tryz.prog) wr (A k) Tryz.underlying50 Tryz.underlying176 hi hcmp hi2
        go_wp2
        go_ret
        exact ⟨by simp, rfl⟩
      · obtain ⟨ck, tk, hrk⟩ := HS.out.row k hk.1 hk.2
        have heq := run_eql_iface_ptr_other (P := Tryz.prog) wr Tryz.underlying50 Tryz.underlying176 hi hcmp hi2 (by rw [hjs]; decide) (fun e => hkj (HS.out.inj k j hk.1 hk.2 hj1 hj2 e)) hrk HR.out
        clear hrk
        have hb : (k == j) = false := by simp [hkj]
        go_wp2
        go_ret
        exact ⟨by rw [hb]; rfl, rfl⟩
    | cons p l' =>
      obtain ⟨b, op, E, rfl, _, hb, hcE⟩ := hc'
      have hty := run_eql_iface_types (P := Tryz.prog) 133 176 (.pointer (some ⟨b, 0, none⟩)) (.pointer (some (A j))) Tryz.underlying50 (by decide) wr
      have hcell : wr.cell? ⟨b, 2, none⟩ = some E := by simp [World.cell?, hb]
      obtain ⟨t, x, rfl⟩ := hcE.iface
      have HE := Lib.hid hcE
      clear hcE hb
      simp only [List.length_cons] at hl'
      have HL := Lib.hid hl'
      clear hl'
      go_wp2
      go_roundg l'.length
      case rel => exact ⟨rfl, l', rfl, HE.out⟩
      case measure => have := HL.out; omega

theorem Is_any {w : World} {A : Nat → Addr} {B : Nat} (hs : Sents w A) (l : List Int) (k : Nat) (v : Value) (hc : Chain w A B l k v) (j : Nat) (hj1 : 1 ≤ j) (hj2 : j ≤ 9) :
    Calls Tryz.prog 83 #[v, .iface 176 (.pointer (some (A j)))] w fun e w' => e = .returned (.bool (k == j)) ∧ w = w' := by
  have h8 := @run_callFunc_extern Tryz.prog 96 _ Extern.ReflectliteType.typeOf Tryz.func96 (by kernel_rfl) (by kernel_rfl) (by kernel_rfl) (by kernel_rfl)
  have h32 := @run_callFunc_extern Tryz.prog 126 _ isCmp Tryz.func126 (by kernel_rfl) (by kernel_rfl) (by kernel_rfl) (by kernel_rfl)
  have tT := Tryz.isTypeOf
  have cT := Tryz.isComparable
  have HC := Lib.hid hc
  obtain ⟨t, x, rfl⟩ := hc.iface
  clear hc
  go_enter Tryz.func83, Tryz.ntmps83
  go_wp2_with (go_at_call 97; refine (is_any hs l k _ HC.out j hj1 hj2).mono ?_; rintro e w' ⟨rfl, rfl⟩)
  go_ret
  exact ⟨rfl, rfl⟩

set_option maxHeartbeats 1000000 in
theorem Code_chain {w : World} {A : Nat → Addr} {B : Nat} (hs : Sents w A) (l : List Int) (k : Nat) (v : Value) (hc : Chain w A B l k v) :
    Calls Tryz.prog 57 #[v] w fun e w' => e = .returned (.int .i64 (k : Int)) ∧ w = w' := by
  have g1 : w.cell? ⟨2, 0, none⟩ = some (.iface 176 (.pointer (some (A 1)))) := hs.cell 1 (by decide) (by decide)
  have g2 : w.cell? ⟨1, 0, none⟩ = some (.iface 176 (.pointer (some (A 2)))) := hs.cell 2 (by decide) (by decide)
  have g3 : w.cell? ⟨3, 0, none⟩ = some (.iface 176 (.pointer (some (A 3)))) := hs.cell 3 (by decide) (by decide)
  have g4 : w.cell? ⟨4, 0, none⟩ = some (.iface 176 (.pointer (some (A 4)))) := hs.cell 4 (by decide) (by decide)
  have g5 : w.cell? ⟨5, 0, none⟩ = some (.iface 176 (.pointer (some (A 5)))) := hs.cell 5 (by decide) (by decide)
  have g6 : w.cell? ⟨6, 0, none⟩ = some (.iface 176 (.pointer (some (A 6)))) := hs.cell 6 (by decide) (by decide)
  have g7 : w.cell? ⟨0, 0, none⟩ = some (.iface 176 (.pointer (some (A 7)))) := hs.cell 7 (by decide) (by decide)
  have g8 : w.cell? ⟨7, 0, none⟩ = some (.iface 176 (.pointer (some (A 8)))) := hs.cell 8 (by decide) (by decide)
  have g9 : w.cell? ⟨8, 0, none⟩ = some (.iface 176 (.pointer (some (A 9)))) := hs.cell 9 (by decide) (by decide)
  have HC := Lib.hid hc
  have HK := Lib.hid hc.le
  obtain ⟨t, x, rfl⟩ := hc.iface
  clear hc
  go_enter Tryz.func57, Tryz.ntmps57
  go_wp2_with (first | (go_at_call 83; (with_reducible refine (Is_any hs l k _ HC.out 1 (by decide) (by decide)).mono ?_); rintro e w' ⟨rfl, rfl⟩) | (go_at_call 83; (with_reducible refine (Is_any hs l k _ HC.out 2 (by decide) (by decide)).mono ?_); rintro e w' ⟨rfl, rfl⟩) | (go_at_call 83; (with_reducible refine (Is_any hs l k _ HC.out 3 (by decide) (by decide)).mono ?_); rintro e w' ⟨rfl, rfl⟩) | (go_at_call 83; (with_reducible refine (Is_any hs l k _ HC.out 4 (by decide) (by decide)).mono ?_); rintro e w' ⟨rfl, rfl⟩) | (go_at_call 83; (with_reducible refine (Is_any hs l k _ HC.out 5 (by decide) (by decide)).mono ?_); rintro e w' ⟨rfl, rfl⟩) | (go_at_call 83; (with_reducible refine (Is_any hs l k _ HC.out 6 (by decide) (by decide)).mono ?_); rintro e w' ⟨rfl, rfl⟩) | (go_at_call 83; (with_reducible refine (Is_any hs l k _ HC.out 7 (by decide) (by decide)).mono ?_); rintro e w' ⟨rfl, rfl⟩) | (go_at_call 83; (with_reducible refine (Is_any hs l k _ HC.out 8 (by decide) (by decide)).mono ?_); rintro e w' ⟨rfl, rfl⟩) | (go_at_call 83; (with_reducible refine (Is_any hs l k _ HC.out 9 (by decide) (by decide)).mono ?_); rintro e w' ⟨rfl, rfl⟩))
  all_goals go_ret
  all_goals refine ⟨?_, rfl⟩
  all_goals have h9 := HK.out
  all_goals simp only [beq_iff_eq, beq_eq_false_iff_ne] at *
  all_goals first | (subst k; rfl) | (exfalso; omega)
theorem Code_any {w : World} {A : Nat → Addr} {B : Nat} (hs : Sents w A) (l : List Int) (k : Nat) (v : Value) (hc : ErrIs w A B l k v) :
    Calls Tryz.prog 57 #[v] w fun e w' => e = .returned (.int .i64 (k : Int)) ∧ w = w' := by
  rcases hc with ⟨rfl, rfl, rfl⟩ | ⟨_, hc⟩
  · go_enter Tryz.func57, Tryz.ntmps57
    go_wp2
    go_ret
    exact ⟨rfl, rfl⟩
  · exact Code_chain hs l k v hc
end Go.Proofs.YtflbioiildndoaaGreatDoor

/- the walk of SameBytes -/
namespace Go.Proofs.YtflbioiildndoaaGreatDoor
open Go.RowKit

theorem take_eq_succ {l m : List UInt8} {k : Nat} {x y : UInt8} (h : l.take k = m.take k) (hx : l[k]? = some x) (hy : m[k]? = some y) (e : x = y) : l.take (k + 1) = m.take (k + 1) := by
  rw [List.take_add_one, List.take_add_one, h, hx, hy, e]

theorem same_any (v1 v2 : Value) (l1 l2 : List UInt8) (w : World) (h1 : BytesAt w v1 l1) (h2 : BytesAt w v2 l2) :
    Calls Tryz.prog 16 #[v1, v2] w fun e w' => e = .returned (.bool (l1 == l2)) ∧ Below w.heap.size w w' := by
  have H1 : Hid (BytesAt w v1 l1) := h1
  have H2 : Hid (BytesAt w v2 l2) := h2
  obtain ⟨a1, c1, rfl, hlc1, hcm1, hl1⟩ := h1
  obtain ⟨a2, c2, rfl, hlc2, hcm2, hl2⟩ := h2
  unfold maxLen at hcm1 hcm2
  have HL1 := Lib.hid hl1
  have HL2 := Lib.hid hl2
  clear hl1 hl2
  by_cases hne : l1.length = l2.length
  · have ht : ((l1.length : Int) != (l2.length : Int)) = false := by simp [hne]
    have HN := Lib.hid hne
    clear hne
    go_enter Tryz.func16, Tryz.ntmps16
    go_wp2
    go_loopw [5] (fun i wr => ∃ k : Nat, k ≤ l1.length ∧ i = .int .i64 k ∧ l1.take k = l2.take k ∧ Below w.heap.size w wr) (fun i _ => l1.length - (intOf i).toNat)
    case atStart => exact ⟨0, by omega, rfl, by simp, Below.refl _ _⟩
    case round =>
      obtain ⟨k, hk, rfl, htk, hbel⟩ := hrel
      have HT := Lib.hid htk
      clear htk
      by_cases hlt : k < l1.length
      · obtain ⟨x, hx⟩ := getElem?_some_of_lt hlt
        obtain ⟨y, hy⟩ := getElem?_some_of_lt (show k < l2.length by rw [← HN.out]; exact hlt)
        have hlt2 : (k : Int) < (l2.length : Int) := by have := HN.out; omega
        have hlt1 : (k : Int) < (l1.length : Int) := by omega
        rcases HL1.out with hn | ⟨b1, o1, rfl, hc1⟩
        · rw [hn] at hlt; simp at hlt
        rcases HL2.out with hn | ⟨b2, o2, rfl, hc2⟩
        · rw [hn] at hlt2; simp at hlt2; omega
        have hcx := Later.cell (w := wr) ((hbel.cell (World.block_lt_of_cell? w _ (hc1 k x hx))).trans (hc1 k x hx))
        have hcy := Later.cell (w := wr) ((hbel.cell (World.block_lt_of_cell? w _ (hc2 k y hy))).trans (hc2 k y hy))
        have HX := Lib.hid hx
        have HY := Lib.hid hy
        clear hx hy hc1 hc2
        go_wp2
        refine wp_region_later (by kernel_rfl) (by kernel_rfl) ?_
        repeat (first | go_big_quiet_step (fail) | quiet_step (fail))
        refine wpQuiet_nil ?_
        intro xw
        have hxb := xw.below
        go_wp2
        · have hne : ((x.toNat : Int) != (y.toNat : Int)) = true := by assumption
          go_ret
          refine ⟨ret_bool ?_, hbel.trans (hxb.mono hbel.size)⟩
          symm
          rw [beq_eq_false_iff_ne]
          intro e
          have h1 := HX.out
          rw [e, HY.out] at h1
          simp at h1
          subst h1
          simp at hne
        · have heq : ((x.toNat : Int) != (y.toNat : Int)) = false := by assumption
          have hxy : x = y := by
            have : x.toNat = y.toNat := by simp at heq; omega
            exact UInt8.toNat_inj.1 this
          go_roundw
          case rel => exact ⟨k + 1, by omega, by go_num, take_eq_succ HT.out HX.out HY.out hxy, hbel.trans (hxb.mono hbel.size)⟩
          case measure => simp [intOf]; omega
      · have hk2 : k = l1.length := by omega
        subst hk2
        go_wp2
        go_ret
        refine ⟨ret_bool ?_, hbel⟩
        symm
        rw [beq_iff_eq]
        have h1 := HT.out
        rwa [List.take_length, HN.out, List.take_length] at h1
  · have ht : ((l1.length : Int) != (l2.length : Int)) = true := by simp; omega
    go_enter Tryz.func16, Tryz.ntmps16
    go_wp2
    go_ret
    exact ⟨ret_bool (by symm; rw [beq_eq_false_iff_ne]; exact fun e => hne (by rw [e])), Below.refl _ _⟩
end Go.Proofs.YtflbioiildndoaaGreatDoor
