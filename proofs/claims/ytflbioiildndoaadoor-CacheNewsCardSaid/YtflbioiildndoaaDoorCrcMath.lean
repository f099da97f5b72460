/- the plain law of the check sum: registers, bytes, bursts; no program in sight -/
namespace Go.Proofs.YtflbioiildndoaaDoor.Crc
/-- a register -/
abbrev W := BitVec 32
def poly : W := 0xedb88320#32
/-- one step with no bit -/
def st (r : W) : W := (r >>> 1) ^^^ (if r.getLsbD 0 then poly else 0#32)
def one (b : Bool) : W := if b then 1#32 else 0#32
def stepBit (r : W) (b : Bool) : W := st (r ^^^ one b)
def itn : Nat → W → W
  | 0, r => r
  | n + 1, r => itn n (st r)
def fold (r : W) (l : List Bool) : W := l.foldl stepBit r

theorem st_xor (a b : W) : st (a ^^^ b) = st a ^^^ st b := by
  unfold st
  rw [BitVec.ushiftRight_xor_distrib, BitVec.getLsbD_xor]
  have hp : ∀ x y : W, poly ^^^ x ^^^ (poly ^^^ y) = x ^^^ y := fun x y => by
    rw [BitVec.xor_assoc, ← BitVec.xor_assoc x, BitVec.xor_comm x poly, BitVec.xor_assoc poly x, ← BitVec.xor_assoc, BitVec.xor_self, BitVec.zero_xor]
  cases a.getLsbD 0 <;> cases b.getLsbD 0
  · simp
  · simp; ac_rfl
  · simp; ac_rfl
  · simp only [Bool.bne_true, Bool.not_true, Bool.false_eq_true, if_false, if_true, BitVec.xor_zero]
    rw [BitVec.xor_comm (a >>> 1) poly, BitVec.xor_comm (b >>> 1) poly, hp]

theorem itn_xor (n : Nat) (a b : W) : itn n (a ^^^ b) = itn n a ^^^ itn n b := by
  induction n generalizing a b with
  | zero => rfl
  | succ n ih => simp only [itn]; rw [st_xor, ih]

theorem itn_succ' (n : Nat) (r : W) : itn (n + 1) r = st (itn n r) := by
  induction n generalizing r with
  | zero => rfl
  | succ n ih => rw [itn, ih]; rfl

theorem st_zero (x : W) (h : st x = 0#32) : x = 0#32 := by
  unfold st at h
  by_cases hb : x.getLsbD 0
  · rw [if_pos hb] at h
    have := congrArg (fun y : W => y.getLsbD 31) h
    simp [poly] at this
  · rw [if_neg hb] at h
    simp only [BitVec.xor_zero] at h
    apply BitVec.eq_of_getLsbD_eq
    intro i hi
    cases i with
    | zero => simpa using hb
    | succ i =>
      have := congrArg (fun y : W => y.getLsbD i) h
      simp only [BitVec.getLsbD_ushiftRight, BitVec.getLsbD_zero] at this
      rw [Nat.add_comm] at this
      simpa using this

theorem st_inj {a b : W} (h : st a = st b) : a = b := by
  have h0 : st (a ^^^ b) = 0#32 := by rw [st_xor, h, BitVec.xor_self]
  have := st_zero _ h0
  have h2 : a ^^^ b ^^^ b = 0#32 ^^^ b := by rw [this]
  simpa [BitVec.xor_assoc] using h2

theorem itn_inj {n : Nat} {a b : W} (h : itn n a = itn n b) : a = b := by
  induction n generalizing a b with
  | zero => exact h
  | succ n ih => exact st_inj (ih h)

theorem xor_cancel {a b c : W} (h : a ^^^ b = a ^^^ c) : b = c := by
  have : a ^^^ (a ^^^ b) = a ^^^ (a ^^^ c) := by rw [h]
  simpa [← BitVec.xor_assoc] using this

theorem stepBit_inj {a b : W} {x : Bool} (h : stepBit a x = stepBit b x) : a = b := by
  have := st_inj h
  rw [BitVec.xor_comm a, BitVec.xor_comm b] at this
  exact xor_cancel this

theorem fold_inj {a b : W} {l : List Bool} (h : fold a l = fold b l) : a = b := by
  induction l generalizing a b with
  | nil => exact h
  | cons x l ih => exact stepBit_inj (ih h)

theorem fold_append (r : W) (l m : List Bool) : fold r (l ++ m) = fold (fold r l) m := by simp [fold]

/-- bits as a number, the lowest first -/
def val : List Bool → W
  | [] => 0#32
  | b :: l => one b ^^^ (val l <<< 1)

theorem val_bit (l : List Bool) (i : Nat) (hi : i < 32) : (val l).getLsbD i = (l[i]?).getD false := by
  induction l generalizing i with
  | nil => simp [val]
  | cons b l ih =>
    simp only [val, BitVec.getLsbD_xor]
    cases i with
    | zero => cases b <;> simp [one]
    | succ i =>
      have h1 : (one b).getLsbD (i + 1) = false := by cases b <;> simp [one]
      rw [h1, BitVec.getLsbD_shiftLeft]
      simp [hi, ih i (by omega)]

theorem st_shl (v : W) (h : v.getLsbD 31 = false) : st (v <<< 1) = v := by
  unfold st
  have h0 : (v <<< 1).getLsbD 0 = false := by simp
  rw [h0]
  simp only [Bool.false_eq_true, if_false, BitVec.xor_zero]
  apply BitVec.eq_of_getLsbD_eq
  intro i hi
  rw [BitVec.getLsbD_ushiftRight, BitVec.getLsbD_shiftLeft]
  by_cases h31 : i = 31
  · subst h31; rw [h]; decide
  · have : 1 + i < 32 := by omega
    simp [this]

/-- at most 32 bits, put in one by one, are put in at once -/
theorem fold_val (r : W) (l : List Bool) (h : l.length ≤ 32) : fold r l = itn l.length (r ^^^ val l) := by
  induction l generalizing r with
  | nil => simp [fold, itn, val]
  | cons b l ih =>
    simp only [List.length_cons] at h
    show fold (stepBit r b) l = itn l.length (st (r ^^^ val (b :: l)))
    rw [ih _ (by omega)]
    have hv : (val l).getLsbD 31 = false := by
      rw [val_bit _ _ (by omega), List.getElem?_eq_none (by omega)]; rfl
    congr 1
    simp only [val, stepBit]
    rw [← BitVec.xor_assoc, st_xor (r ^^^ one b), st_shl _ hv]

theorem val_inj {l m : List Bool} (hl : l.length = m.length) (h32 : l.length ≤ 32) (h : val l = val m) : l = m := by
  apply List.ext_getElem hl
  intro i h1 h2
  have := congrArg (fun v : W => v.getLsbD i) h
  simp only [val_bit _ _ (show i < 32 by omega)] at this
  simpa [List.getElem?_eq_getElem h1, List.getElem?_eq_getElem h2] using this

theorem fold_window {r : W} {l m : List Bool} (hl : l.length = m.length) (h32 : l.length ≤ 32) (h : fold r l = fold r m) : l = m := by
  rw [fold_val _ _ h32, fold_val _ _ (by omega), hl] at h
  exact val_inj hl h32 (xor_cancel (itn_inj h))

/-- two texts of bits that differ within 32 bits in a row alone, and come to one register, are one -/
theorem fold_burst {r : W} {p q : List Bool} (s : Nat) (hl : p.length = q.length) (hd : ∀ j, j < s ∨ s + 32 ≤ j → p[j]? = q[j]?) (h : fold r p = fold r q) : p = q := by
  have hp : p = p.take s ++ ((p.drop s).take 32 ++ (p.drop s).drop 32) := by rw [List.take_append_drop, List.take_append_drop]
  have hq : q = q.take s ++ ((q.drop s).take 32 ++ (q.drop s).drop 32) := by rw [List.take_append_drop, List.take_append_drop]
  have h1 : p.take s = q.take s := by
    apply List.ext_getElem?
    intro j
    rw [List.getElem?_take, List.getElem?_take]
    split
    · exact hd j (by omega)
    · rfl
  have h3 : (p.drop s).drop 32 = (q.drop s).drop 32 := by
    apply List.ext_getElem?
    intro j
    simp only [List.getElem?_drop]
    exact hd _ (by omega)
  rw [hp, hq, h1, h3, fold_append, fold_append, fold_append, fold_append] at h
  have h2 := fold_window (by simp [hl]) (by simp; omega) (fold_inj h)
  rw [hp, hq, h1, h2, h3]

/-- a byte's bits, the lowest first -/
def byteBits (x : UInt8) : List Bool := (List.range 8).map x.toBitVec.getLsbD
def bitsOf (l : List UInt8) : List Bool := l.flatMap byteBits
theorem byteBits_length (x : UInt8) : (byteBits x).length = 8 := by simp [byteBits]
theorem byteBits_get (x : UInt8) (i : Nat) (h : i < 8) : (byteBits x)[i]? = some (x.toBitVec.getLsbD i) := by simp [byteBits, h]
theorem bitsOf_length (l : List UInt8) : (bitsOf l).length = 8 * l.length := by
  induction l with
  | nil => rfl
  | cons x l ih => simp only [bitsOf, List.flatMap_cons, List.length_append, byteBits_length, List.length_cons] at *; omega
theorem bitsOf_append (l m : List UInt8) : bitsOf (l ++ m) = bitsOf l ++ bitsOf m := by simp [bitsOf]
theorem bitsOf_get (l : List UInt8) (j : Nat) : (bitsOf l)[j]? = (l[j / 8]?).map fun x => x.toBitVec.getLsbD (j % 8) := by
  induction l generalizing j with
  | nil => simp [bitsOf]
  | cons x l ih =>
    have e : bitsOf (x :: l) = byteBits x ++ bitsOf l := rfl
    rw [e]
    by_cases h : j < 8
    · rw [List.getElem?_append_left (by rw [byteBits_length]; exact h), byteBits_get _ _ h, Nat.div_eq_of_lt h, Nat.mod_eq_of_lt h]; rfl
    · rw [List.getElem?_append_right (by rw [byteBits_length]; omega), byteBits_length, ih]
      have h1 : j / 8 = (j - 8) / 8 + 1 := by omega
      have h2 : j % 8 = (j - 8) % 8 := by omega
      rw [h1, h2]; rfl
theorem bitsOf_inj {l m : List UInt8} (h : bitsOf l = bitsOf m) : l = m := by
  have hl : l.length = m.length := by have := congrArg List.length h; rw [bitsOf_length, bitsOf_length] at this; omega
  apply List.ext_getElem hl
  intro i h1 h2
  apply UInt8.toBitVec_inj.1
  apply BitVec.eq_of_getLsbD_eq
  intro k hk
  have := congrArg (fun z : List Bool => z[8 * i + k]?) h
  simp only [bitsOf_get] at this
  have e1 : (8 * i + k) / 8 = i := by omega
  have e2 : (8 * i + k) % 8 = k := by omega
  rw [e1, e2, List.getElem?_eq_getElem h1, List.getElem?_eq_getElem h2] at this
  simpa using this

/-! ### bytes -/
def entry (n : UInt8) : W := itn 8 (n.toBitVec.setWidth 32)
/-- the register behind a byte -/
def upd (r : W) (x : UInt8) : W := (r >>> 8) ^^^ entry (UInt8.ofBitVec (r.setWidth 8) ^^^ x)
def run (r : W) (l : List UInt8) : W := l.foldl upd r
def more (s : W) (l : List UInt8) : W := ~~~(run (~~~s) l)
def sum (l : List UInt8) : W := more 0#32 l

theorem itn8_high (r : W) : itn 8 ((r >>> 8) <<< 8) = r >>> 8 := by
  have e : (r >>> 8) <<< 8 = ((((((((r >>> 8) <<< 1) <<< 1) <<< 1) <<< 1) <<< 1) <<< 1) <<< 1) <<< 1 := by
    simp only [← BitVec.shiftLeft_add]
  rw [e]
  simp only [itn]
  repeat rw [st_shl _ (by simp)]

theorem val_byte (x : UInt8) : val (byteBits x) = x.toBitVec.setWidth 32 := by
  apply BitVec.eq_of_getLsbD_eq
  intro i hi
  rw [val_bit _ _ hi, BitVec.getLsbD_setWidth]
  by_cases h : i < 8
  · rw [byteBits_get _ _ h]; simp [hi]
  · rw [List.getElem?_eq_none (by rw [byteBits_length]; omega)]
    rw [BitVec.getLsbD_of_ge _ _ (by omega)]; simp

theorem split8 (r : W) : r = ((r >>> 8) <<< 8) ^^^ (r.setWidth 8).setWidth 32 := by
  apply BitVec.eq_of_getLsbD_eq
  intro i hi
  rw [BitVec.getLsbD_xor, BitVec.getLsbD_shiftLeft, BitVec.getLsbD_ushiftRight, BitVec.getLsbD_setWidth, BitVec.getLsbD_setWidth]
  by_cases h : i < 8
  · simp [h, hi]
  · simp [h, hi]
    congr 1; omega

theorem fold_byte (r : W) (x : UInt8) : fold r (byteBits x) = upd r x := by
  rw [fold_val _ _ (by rw [byteBits_length]; omega), byteBits_length, val_byte]
  unfold upd entry
  conv => lhs; rw [split8 r]
  rw [BitVec.xor_assoc, itn_xor, itn8_high]
  rw [UInt8.toBitVec_xor, BitVec.setWidth_xor]

theorem fold_bits (r : W) (l : List UInt8) : fold r (bitsOf l) = run r l := by
  induction l generalizing r with
  | nil => rfl
  | cons x l ih =>
    have e : bitsOf (x :: l) = byteBits x ++ bitsOf l := rfl
    rw [e, fold_append, fold_byte, ih]; rfl

theorem run_append (r : W) (l m : List UInt8) : run r (l ++ m) = run (run r l) m := by simp [run]
theorem more_append (s : W) (l m : List UInt8) : more s (l ++ m) = more (more s l) m := by simp [more, run_append]
theorem sum_append (l m : List UInt8) : sum (l ++ m) = more (sum l) m := more_append _ _ _

/-- P2.3 -/
theorem sum_burst {p q : List UInt8} (s : Nat) (hl : p.length = q.length) (hd : ∀ j, j < s ∨ s + 32 ≤ j → (bitsOf p)[j]? = (bitsOf q)[j]?) (h : sum p = sum q) : p = q := by
  unfold sum more at h
  have h' := BitVec.not_inj.1 h
  rw [← fold_bits, ← fold_bits] at h'
  exact bitsOf_inj (fold_burst s (by rw [bitsOf_length, bitsOf_length, hl]) hd h')

/-- P2.4 -/
theorem run_xor (a b : W) (l m : List UInt8) (h : l.length = m.length) : run (a ^^^ b) (List.zipWith (· ^^^ ·) l m) = run a l ^^^ run b m := by
  induction l generalizing a b m with
  | nil => cases m with | nil => rfl | cons _ _ => simp at h
  | cons x l ih =>
    cases m with
    | nil => simp at h
    | cons y m =>
      have e : upd (a ^^^ b) (x ^^^ y) = upd a x ^^^ upd b y := by
        unfold upd entry
        rw [BitVec.ushiftRight_xor_distrib]
        have : (UInt8.ofBitVec ((a ^^^ b).setWidth 8) ^^^ (x ^^^ y)).toBitVec.setWidth 32 = (UInt8.ofBitVec (a.setWidth 8) ^^^ x).toBitVec.setWidth 32 ^^^ (UInt8.ofBitVec (b.setWidth 8) ^^^ y).toBitVec.setWidth 32 := by
          apply BitVec.eq_of_getLsbD_eq
          intro i hi
          simp [BitVec.getLsbD_setWidth]
          by_cases h8 : i < 8 <;> simp only [h8, hi, decide_true, decide_false, Bool.true_and, Bool.false_and] <;>
            cases a.getLsbD i <;> cases b.getLsbD i <;> cases x.toBitVec.getLsbD i <;> cases y.toBitVec.getLsbD i <;> rfl
        rw [this, itn_xor]
        ac_rfl
      simp only [List.zipWith_cons_cons, run, List.foldl_cons] at ih ⊢
      rw [e]
      exact ih _ _ m (by simpa using h)

theorem sum_three (l m n : List UInt8) (h1 : l.length = m.length) (h2 : l.length = n.length) :
    sum l ^^^ sum m ^^^ sum n = sum (List.zipWith (· ^^^ ·) (List.zipWith (· ^^^ ·) l m) n) := by
  unfold sum more
  have e : (~~~0#32 : W) = (~~~0#32 ^^^ ~~~0#32) ^^^ ~~~0#32 := by decide
  conv => rhs; rw [e]
  rw [run_xor _ _ _ _ (by simp; omega), run_xor _ _ _ _ h1]
  apply BitVec.eq_of_getLsbD_eq
  intro i hi
  simp [hi]

end Go.Proofs.YtflbioiildndoaaDoor.Crc
