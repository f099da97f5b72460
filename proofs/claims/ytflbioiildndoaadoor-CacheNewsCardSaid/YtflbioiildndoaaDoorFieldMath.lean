/- the plain law of numbers as bytes -/
namespace Go.Proofs.YtflbioiildndoaaDoor.Fld
/-- a number's bytes, the lowest first -/
def le : Nat → Nat → List UInt8
  | 0, _ => []
  | w + 1, n => UInt8.ofNat n :: le w (n / 256)
/-- the number of bytes, the lowest first -/
def unle : List UInt8 → Nat
  | [] => 0
  | x :: l => x.toNat + 256 * unle l
theorem le_length (w n : Nat) : (le w n).length = w := by
  induction w generalizing n with
  | zero => rfl
  | succ w ih => simp [le, ih]
theorem unle_le (w n : Nat) (h : n < 256 ^ w) : unle (le w n) = n := by
  induction w generalizing n with
  | zero => simp at h; simp [le, unle, h]
  | succ w ih =>
    have : n / 256 < 256 ^ w := by rw [Nat.pow_succ] at h; omega
    simp only [le, unle, ih _ this, UInt8.toNat_ofNat']
    omega
theorem unle_lt (l : List UInt8) : unle l < 256 ^ l.length := by
  induction l with
  | nil => simp [unle]
  | cons x l ih =>
    have := x.toNat_lt
    simp only [unle, List.length_cons, Nat.pow_succ]
    omega
theorem le_unle (l : List UInt8) : le l.length (unle l) = l := by
  induction l with
  | nil => rfl
  | cons x l ih =>
    have := x.toNat_lt
    simp only [List.length_cons, le, unle]
    have h1 : (x.toNat + 256 * unle l) / 256 = unle l := by omega
    rw [h1, ih]
    congr 1
    apply UInt8.toNat_inj.1
    rw [UInt8.toNat_ofNat']
    omega
/-- one byte more -/
theorem le_snoc (k n : Nat) : le (k + 1) n = le k n ++ [UInt8.ofNat (n / 256 ^ k)] := by
  induction k generalizing n with
  | zero => simp [le]
  | succ k ih =>
    rw [le, ih, le, List.cons_append, Nat.div_div_eq_div_mul, Nat.pow_succ, Nat.mul_comm]
theorem unle_append (l m : List UInt8) : unle (l ++ m) = unle l + 256 ^ l.length * unle m := by
  induction l with
  | nil => simp [unle]
  | cons x l ih =>
    simp only [List.cons_append, unle, ih, List.length_cons, Nat.pow_succ, Nat.mul_add]
    rw [← Nat.mul_assoc, Nat.mul_comm 256 (256 ^ l.length)]
    omega
/-- is it a width? -/
def right (w : Int) : Bool := w == 1 || w == 2 || w == 4 || w == 8
theorem right_cases {w : Int} (h : right w = true) : w = 1 ∨ w = 2 ∨ w = 4 ∨ w = 8 := by simpa [right, or_assoc] using h
theorem right_not {w : Int} (h : right w = false) : w ≠ 1 ∧ w ≠ 2 ∧ w ≠ 4 ∧ w ≠ 8 := by simpa [right, and_assoc] using h
end Go.Proofs.YtflbioiildndoaaDoor.Fld
