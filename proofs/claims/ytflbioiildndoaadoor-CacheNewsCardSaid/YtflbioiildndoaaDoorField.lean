/- the walks of package field -/
import Derived.Test.YtflbioiildndoaaDoorSent
import Derived.Test.YtflbioiildndoaaDoorOwn
import Derived.Test.YtflbioiildndoaaDoorFieldMath
namespace Go.Proofs.YtflbioiildndoaaDoor
open Go.RowKit

theorem right_any (x : Int) (w : World) : Calls Tryd.prog 106 #[.int .i64 x] w fun e w' => e = .returned (.bool (Fld.right x)) ∧ w = w' := by
  cases h : Fld.right x with
  | true =>
    rcases Fld.right_cases h with rfl | rfl | rfl | rfl <;>
    · go_enter Tryd.func106, Tryd.ntmps106
      go_wp2
      go_ret
      exact ⟨rfl, rfl⟩
  | false =>
    obtain ⟨h1, h2, h4, h8⟩ := Fld.right_not h
    have b1 : (x == 1) = false := by simp [h1]
    have b2 : (x == 2) = false := by simp [h2]
    have b4 : (x == 4) = false := by simp [h4]
    have b8 : (x == 8) = false := by simp [h8]
    clear h1 h2 h4 h8 h
    go_enter Tryd.func106, Tryd.ntmps106
    go_wp2
    go_ret
    exact ⟨rfl, rfl⟩

/-- what a call that makes bytes leaves -/
def GivesBytes (w : World) (l : List UInt8) (e : Ending) (w' : World) : Prop := ∃ v, e = .returned (.tuple #[v, .nilIface]) ∧ Own w' w.heap.size v l
theorem GivesBytes.seen {w w' : World} {l : List UInt8} {e : Ending} (h : GivesBytes w l e w') : ∃ a c, e = .returned (.tuple #[.slice a l.length c, .nilIface]) ∧ Own w' w.heap.size (.slice a l.length c) l := by
  obtain ⟨v, rfl, ho⟩ := h
  obtain ⟨a, c, rfl, _, _⟩ := ho.slice
  exact ⟨a, c, rfl, ho⟩
def Fails2 (x : Value) (A : Nat → Addr) (B : Nat) (l : List Int) (k : Nat) (e : Ending) (w' : World) : Prop := ∃ v, e = .returned (.tuple #[x, v]) ∧ ErrIs w' A B l k v

/-- a number that is shifted, byte by byte -/
def nRest (n k : Nat) : Int := ((n / 256 ^ k : Nat) : Int)
theorem nRest_zero (n : Nat) : nRest n 0 = (n : Int) := by simp [nRest]
theorem nRest_next (n k : Nat) : nRest n k / 256 = nRest n (k + 1) := by
  unfold nRest
  rw [Nat.pow_succ, ← Nat.div_div_eq_div_mul]; omega
theorem nRest_byte (n k : Nat) : nRest n k % 256 = ((UInt8.ofNat (n / 256 ^ k)).toNat : Int) := by
  unfold nRest
  rw [UInt8.toNat_ofNat']
  omega
theorem nRest_bd (n k : Nat) (h : n < 18446744073709551616) : 0 ≤ nRest n k ∧ nRest n k ≤ 18446744073709551615 := by
  have h1 := Nat.div_le_self n (256 ^ k)
  unfold nRest
  generalize n / 256 ^ k = m at *
  omega
/-- a byte in a block of its own -/
theorem one_byte (w : World) (x : UInt8) (z : Int) (hz : z = (x.toNat : Int)) (t : TypeId) : BytesAt (w.alloc (.cells #[.int .u8 z] t)) (.slice (some ⟨w.heap.size, 0, none⟩) 1 1) [x] := by
  subst hz
  refine ⟨_, 1, rfl, by simp, by unfold maxLen; omega, .inr ⟨w.heap.size, 0, rfl, fun i y hy => ?_⟩⟩
  have : i = 0 := by
    have := (List.getElem?_eq_some_iff.1 hy).1
    simp at this; omega
  subst this
  simp at hy
  subst hy
  exact cell_of_row _ w.heap.size 0 _ t (0, 0) (heap_alloc_new w _)

theorem shift_zero (n x : Nat) (h : n < 256 ^ x) : ((n : Int) / 2 ^ (8 * x) != 0) = false := by
  have e : (2 : Int) ^ (8 * x) = ((256 ^ x : Nat) : Int) := by
    have h2 : 256 ^ x = 2 ^ (8 * x) := by rw [Nat.pow_mul]
    rw [h2]; simp
  rw [e]
  have : (n : Int) / ((256 ^ x : Nat) : Int) = ((n / 256 ^ x : Nat) : Int) := by simp
  rw [this, Nat.div_eq_of_lt h]
  rfl

set_option maxHeartbeats 1000000 in
theorem put_ok (v : Value) (l : List UInt8) (n : Nat) (x : Nat) (w : World) (hb : BytesAt w v l) (hx : Fld.right (x : Int) = true) (hn : n < 256 ^ x) (hn64 : n < 18446744073709551616) (hlen : l.length ≤ 140737488351232) :
    Calls Tryd.prog 98 #[v, .int .u64 (n : Int), .int .i64 (x : Int)] w fun e w' => GivesBytes w (l ++ Fld.le x n) e w' ∧ Below w.heap.size w w' := by
  have HB := Lib.hid hb
  have hx8 : x ≤ 8 := by rcases Fld.right_cases hx with h | h | h | h <;> omega
  have hsh := shift_zero n x hn
  clear hb
  by_cases h8 : (x : Int) < 8
  all_goals
    go_enter Tryd.func98, Tryd.ntmps98
    go_wp2_with (first | (go_at_call 106; refine (right_any _ _).mono ?_; rintro e w' ⟨rfl, rfl⟩) | (at_builtin; refine wpList_append_bytes rfl (.tmp 25) (.tmp 26) rfl w.heap.size _ [] rfl (Own.empty w _ (Nat.le_refl _)) _ l rfl (HB.out.alloc _) (by simp; omega) (by simp) ?_))
    intro v1 w1 hown hgrow _
    have hbel := ((Below.refl w.heap.size w).alloc (Nat.le_refl _) (.cells #[] 5)).grown hgrow (by simp) (by intro k hk; simp [Value.ownBlock] at hk; omega)
    have HO := Lib.hid hown
    clear hgrow hown
    clear hsh
    go_wp2
    go_loopw [8, 1, 29] (fun o m i wr => ∃ k : Nat, k ≤ x ∧ i = .int .i64 k ∧ m = .int .u64 (nRest n k) ∧ Own wr w.heap.size o (l ++ Fld.le k n) ∧ Below w.heap.size w wr) (fun _ _ i _ => x - (intOf i).toNat)
    case atStart => exact ⟨0, by omega, rfl, by rw [nRest_zero], by simpa [Fld.le] using HO.out, hbel⟩
    case round =>
      obtain ⟨k, hk, rfl, rfl, ho, hbr⟩ := hrel
      have HO2 := Lib.hid ho
      have hbd := nRest_bd n k hn64
      have hsz := hbr.size
      clear ho
      by_cases hlt : k < x
      · have HB1 := Lib.hid (one_byte wr (UInt8.ofNat (n / 256 ^ k)) _ (nRest_byte n k) 5)
        have hll : (l ++ Fld.le k n).length + 1 ≤ 140737488355328 := by rw [List.length_append, Fld.le_length]; omega
        go_wp2_with (at_builtin; refine wpList_append_bytes rfl (.tmp 31) (.tmp 34) rfl w.heap.size _ (l ++ Fld.le k n) rfl (HO2.out.alloc _) _ [UInt8.ofNat (n / 256 ^ k)] rfl HB1.out hll (by simp; omega) ?_)
        intro v2 w2 hown hgrow _
        have hb2 := (hbr.alloc hsz (.cells #[.int .u8 (nRest n k % 256)] 5)).grown hgrow (by simp; omega) (fun j hj => (HO2.out.lt j hj).1)
        have HO3 := Lib.hid hown
        clear hgrow hown
        go_wp2
        go_roundw
        case rel => exact ⟨k + 1, by omega, by go_num, by rw [nRest_next], by rw [Fld.le_snoc]; exact HO3.out, hb2⟩
        case measure => simp [intOf]; omega
      · have hkx : k = x := by omega
        subst hkx
        go_wp2
        go_ret2
        exact ⟨⟨_, rfl, HO2.out⟩, hbr⟩

theorem shift_some (n x : Nat) (h : ¬ n < 256 ^ x) : ((n : Int) / 2 ^ (8 * x) != 0) = true := by
  have e : (2 : Int) ^ (8 * x) = ((256 ^ x : Nat) : Int) := by
    have h2 : 256 ^ x = 2 ^ (8 * x) := by rw [Nat.pow_mul]
    rw [h2]; simp
  rw [e]
  have h1 : (n : Int) / ((256 ^ x : Nat) : Int) = ((n / 256 ^ x : Nat) : Int) := by simp
  have h2 : 0 < n / 256 ^ x := Nat.div_pos (by omega) (Nat.pow_pos (by omega))
  rw [h1, bne_iff_ne]
  omega

/-- no width, or a number that does not fit -/
theorem put_bad (v : Value) (n : Nat) (x : Int) (w : World) (A : Nat → Addr) {S : Nat → Prop} [Has S 1] [Has S 2] (hs : SentsOn S w A) (hn64 : n < 18446744073709551616) (hx : Fld.right x = false ∨ ¬ n < 256 ^ x.toNat) :
    Calls Tryd.prog 98 #[v, .int .u64 (n : Int), .int .i64 x] w fun e w' => Fails2 (.slice none 0 0) A w.heap.size [-1] 2 e w' ∧ Below w.heap.size w w' := by
  have g2 : w.cell? ⟨0, 0, none⟩ = some (.iface 171 (.pointer (some (A 2)))) := hs.cell 2 (by decide) (by decide)
  have HE := Lib.hid (sent_err (w := w) (A := A) (B := w.heap.size) 2 (by decide) (by decide))
  by_cases hr : Fld.right x = true
  · have hb : ¬ n < 256 ^ x.toNat := by
      rcases hx with h | h
      · rw [hr] at h; cases h
      · exact h
    obtain ⟨m, rfl⟩ : ∃ m : Nat, x = (m : Int) := ⟨x.toNat, by rcases Fld.right_cases hr with h | h | h | h <;> omega⟩
    rw [Int.toNat_natCast] at hb
    have hsh := shift_some n m hb
    have h8 : (m : Int) < 8 := by
      rcases Fld.right_cases hr with h | h | h | h
      · omega
      · omega
      · omega
      · obtain rfl : m = 8 := by omega
        exact absurd hn64 (by simpa using hb)
    clear hb hx
    go_enter Tryd.func98, Tryd.ntmps98
    go_wp2_with (first | (go_at_call 106; refine (right_any _ _).mono ?_; rintro e w' ⟨rfl, rfl⟩) | (go_at_call 54; refine (faultNew_any _ 2 _ _ A _ HE.out (by decide) (Nat.le_refl _)).mono ?_; rintro e w' ⟨⟨v1, rfl, he⟩, hb⟩))
    go_ret2
    exact ⟨⟨_, rfl, he⟩, hb⟩
  · have hr : Fld.right x = false := by simpa using hr
    clear hx
    go_enter Tryd.func98, Tryd.ntmps98
    go_wp2_with (first | (go_at_call 106; refine (right_any _ _).mono ?_; rintro e w' ⟨rfl, rfl⟩) | (go_at_call 54; refine (faultNew_any _ 2 _ _ A _ HE.out (by decide) (Nat.le_refl _)).mono ?_; rintro e w' ⟨⟨v1, rfl, he⟩, hb⟩))
    go_ret2
    exact ⟨⟨_, rfl, he⟩, hb⟩

/-- what has been taken from the last byte down to byte j -/
def tk (l : List UInt8) (at_ x j : Nat) : Int := ((Fld.unle ((l.drop (at_ + j)).take (x - j)) : Nat) : Int)
theorem tk_end (l : List UInt8) (at_ x : Nat) : tk l at_ x x = 0 := by simp [tk, Fld.unle]
theorem tk_all (l : List UInt8) (at_ x : Nat) : tk l at_ x 0 = ((Fld.unle ((l.drop at_).take x) : Nat) : Int) := by simp [tk]
theorem tk_bd (l : List UInt8) (at_ x j : Nat) (hx : x ≤ 8) : 0 ≤ tk l at_ x (j + 1) ∧ tk l at_ x (j + 1) ≤ 72057594037927935 := by
  have h1 := Fld.unle_lt ((l.drop (at_ + (j + 1))).take (x - (j + 1)))
  have h2 : ((l.drop (at_ + (j + 1))).take (x - (j + 1))).length ≤ 7 := by rw [List.length_take]; omega
  have h3 : 256 ^ ((l.drop (at_ + (j + 1))).take (x - (j + 1))).length ≤ 256 ^ 7 := Nat.pow_le_pow_right (by omega) h2
  unfold tk
  generalize Fld.unle ((l.drop (at_ + (j + 1))).take (x - (j + 1))) = n at *
  omega
theorem tk_next (l : List UInt8) (at_ x j : Nat) (y : UInt8) (hj : j < x) (h : l[at_ + j]? = some y) : tk l at_ x j = tk l at_ x (j + 1) * 256 + (y.toNat : Int) := by
  have hlt : at_ + j < l.length := (List.getElem?_eq_some_iff.1 h).1
  have e : (l.drop (at_ + j)).take (x - j) = y :: (l.drop (at_ + (j + 1))).take (x - (j + 1)) := by
    rw [List.drop_eq_getElem_cons hlt, show x - j = (x - (j + 1)) + 1 by omega, List.take_succ_cons]
    have : l[at_ + j] = y := by
      have := List.getElem?_eq_getElem hlt
      rw [h] at this
      exact (Option.some.inj this).symm
    rw [this]; rfl
  unfold tk
  rw [e, Fld.unle]
  omega
theorem or_byte (n : Int) (y : UInt8) (h0 : 0 ≤ n) (h1 : n ≤ 72057594037927935) : bits .or .u64 (n * 256) (y.toNat : Int) = n * 256 + (y.toNat : Int) := by
  obtain ⟨m, rfl⟩ := Int.eq_ofNat_of_zero_le h0
  have hy := y.toNat_lt
  show IntKind.u64.wrap ((BitVec.ofInt 64 ((m : Int) * 256) ||| BitVec.ofInt 64 (y.toNat : Int)).toNat : Int) = _
  have e1 : ((m : Int) * 256) = ((m * 256 : Nat) : Int) := by simp
  rw [e1, BitVec.ofInt_natCast, BitVec.ofInt_natCast, BitVec.toNat_or, BitVec.toNat_ofNat, BitVec.toNat_ofNat, Nat.mod_eq_of_lt (by omega), Nat.mod_eq_of_lt (by omega)]
  have e2 : m * 256 ||| y.toNat = m * 256 + y.toNat := by
    have := Nat.shiftLeft_add_eq_or_of_lt (a := m) (b := y.toNat) (i := 8) (by omega)
    rw [Nat.shiftLeft_eq] at this
    exact this.symm
  rw [e2, IntKind.wrap_u64]
  omega

def Gives (a b : Value) (e : Ending) : Prop := e = .returned (.tuple #[a, b])
set_option maxHeartbeats 1000000 in
theorem take_ok (v : Value) (l : List UInt8) (at_ x : Nat) (w : World) (hb : BytesAt w v l) (hx : Fld.right (x : Int) = true) (hat : at_ + x ≤ l.length) :
    Calls Tryd.prog 108 #[v, .int .i64 (at_ : Int), .int .i64 (x : Int)] w fun e w' => Gives (.int .u64 ((Fld.unle ((l.drop at_).take x) : Nat) : Int)) .nilIface e ∧ w = w' := by
  obtain ⟨a, c, rfl, hlc, hcm, hl⟩ := hb
  unfold maxLen at hcm
  have HL := Lib.hid hl
  clear hl
  have hx8 : x ≤ 8 := by rcases Fld.right_cases hx with h | h | h | h <;> omega
  have hx1 : 1 ≤ x := by rcases Fld.right_cases hx with h | h | h | h <;> omega
  have q1 : (at_ : Int) ≤ (l.length : Int) := by omega
  have q2 : (x : Int) ≤ (l.length : Int) - (at_ : Int) := by omega
  go_enter Tryd.func108, Tryd.ntmps108
  go_wp2_with (first | (go_at_call 106; refine (right_any _ _).mono ?_; rintro e w' ⟨rfl, rfl⟩))
  go_loop [8, 9] (fun m i => ∃ j : Nat, j ≤ x ∧ i = .int .i64 ((j : Int) - 1) ∧ m = .int .u64 (tk l at_ x j)) (fun _ i => (intOf i + 1).toNat)
  case atStart => exact ⟨x, by omega, rfl, by rw [tk_end]⟩
  case round =>
    obtain ⟨j, hj, rfl, rfl⟩ := hrel
    cases j with
    | zero =>
      go_wp2
      go_ret2
      exact ⟨by rw [tk_all]; rfl, rfl⟩
    | succ j =>
      have ej : (((j + 1 : Nat) : Int) - 1) = (j : Int) := by omega
      rw [ej]
      clear ej
      obtain ⟨y, hy⟩ := getElem?_some_of_lt (show at_ + j < l.length by omega)
      rcases HL.out with hn | ⟨b, o, rfl, hc⟩
      · rw [hn] at hat; simp at hat; omega
      have hcy := hc (at_ + j) y hy
      have HY := Lib.hid (tk_next l at_ x j y (by omega) hy)
      clear hc hy
      have hbd := tk_bd l at_ x j hx8
      have hyb := y.toNat_lt
      go_wp2
      go_round
      case rel => exact ⟨j, by omega, rfl, by rw [or_byte _ _ hbd.1 hbd.2, HY.out]⟩
      case measure => simp [intOf]

/-- no width, or no such place -/
theorem take_range (v : Value) (l : List UInt8) (at_ x : Int) (w : World) (A : Nat → Addr) {S : Nat → Prop} [Has S 1] [Has S 2] (hs : SentsOn S w A) (hb : BytesAt w v l) (h : Fld.right x = false ∨ at_ < 0 ∨ (l.length : Int) < at_) :
    Calls Tryd.prog 108 #[v, .int .i64 at_, .int .i64 x] w fun e w' => Fails2 (.int .u64 0) A w.heap.size [-1] 2 e w' ∧ Below w.heap.size w w' := by
  obtain ⟨a, c, rfl, hlc, hcm, hl⟩ := hb
  unfold maxLen at hcm
  clear hl
  have g2 : w.cell? ⟨0, 0, none⟩ = some (.iface 171 (.pointer (some (A 2)))) := hs.cell 2 (by decide) (by decide)
  have HE := Lib.hid (sent_err (w := w) (A := A) (B := w.heap.size) 2 (by decide) (by decide))
  by_cases hr : Fld.right x = true
  · by_cases h0 : at_ < 0
    · clear h
      go_enter Tryd.func108, Tryd.ntmps108
      go_wp2_with (first | (go_at_call 106; refine (right_any _ _).mono ?_; rintro e w' ⟨rfl, rfl⟩) | (go_at_call 54; refine (faultNew_any _ 2 _ _ A _ HE.out (by decide) (Nat.le_refl _)).mono ?_; rintro e w' ⟨⟨v1, rfl, he⟩, hb⟩))
      go_ret2
      exact ⟨⟨_, rfl, he⟩, hb⟩
    · have h1 : (l.length : Int) < at_ := by
        rcases h with h | h | h
        · rw [hr] at h; cases h
        · exact absurd h h0
        · exact h
      clear h
      go_enter Tryd.func108, Tryd.ntmps108
      go_wp2_with (first | (go_at_call 106; refine (right_any _ _).mono ?_; rintro e w' ⟨rfl, rfl⟩) | (go_at_call 54; refine (faultNew_any _ 2 _ _ A _ HE.out (by decide) (Nat.le_refl _)).mono ?_; rintro e w' ⟨⟨v1, rfl, he⟩, hb⟩))
      go_ret2
      exact ⟨⟨_, rfl, he⟩, hb⟩
  · have hr : Fld.right x = false := by simpa using hr
    clear h
    go_enter Tryd.func108, Tryd.ntmps108
    go_wp2_with (first | (go_at_call 106; refine (right_any _ _).mono ?_; rintro e w' ⟨rfl, rfl⟩) | (go_at_call 54; refine (faultNew_any _ 2 _ _ A _ HE.out (by decide) (Nat.le_refl _)).mono ?_; rintro e w' ⟨⟨v1, rfl, he⟩, hb⟩))
    go_ret2
    exact ⟨⟨_, rfl, he⟩, hb⟩

/-- fewer bytes than are wanted -/
theorem take_form (v : Value) (l : List UInt8) (at_ x : Nat) (w : World) (A : Nat → Addr) {S : Nat → Prop} [Has S 1] [Has S 2] (hs : SentsOn S w A) (hb : BytesAt w v l) (hx : Fld.right (x : Int) = true) (h1 : at_ ≤ l.length) (h2 : l.length < at_ + x) :
    Calls Tryd.prog 108 #[v, .int .i64 (at_ : Int), .int .i64 (x : Int)] w fun e w' => Fails2 (.int .u64 0) A w.heap.size [-1] 1 e w' ∧ Below w.heap.size w w' := by
  obtain ⟨a, c, rfl, hlc, hcm, hl⟩ := hb
  unfold maxLen at hcm
  clear hl
  have g1 : w.cell? ⟨2, 0, none⟩ = some (.iface 171 (.pointer (some (A 1)))) := hs.cell 1 (by decide) (by decide)
  have HE := Lib.hid (sent_err (w := w) (A := A) (B := w.heap.size) 1 (by decide) (by decide))
  have hx8 : x ≤ 8 := by rcases Fld.right_cases hx with h | h | h | h <;> omega
  have q1 : (at_ : Int) ≤ (l.length : Int) := by omega
  have q2 : (l.length : Int) - (at_ : Int) < (x : Int) := by omega
  go_enter Tryd.func108, Tryd.ntmps108
  go_wp2_with (first | (go_at_call 106; refine (right_any _ _).mono ?_; rintro e w' ⟨rfl, rfl⟩) | (go_at_call 54; refine (faultNew_any _ 1 _ _ A _ HE.out (by decide) (Nat.le_refl _)).mono ?_; rintro e w' ⟨⟨v1, rfl, he⟩, hb⟩))
  go_ret2
  exact ⟨⟨_, rfl, he⟩, hb⟩
end Go.Proofs.YtflbioiildndoaaDoor
