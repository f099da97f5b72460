/- the plain law of pages: the block of a page, the page of a block -/
import Derived.Test.YtflbioiildndoaaDoorFieldMath
import Derived.Test.YtflbioiildndoaaDoorCrcMath
namespace Go.Proofs.YtflbioiildndoaaDoor.Pg
open Fld

/-- a page -/
structure Page where
  kind : Int
  id : Int
  gen : Nat
  body : List UInt8
def zero : Page := ⟨0, 0, 0, []⟩
/-- what a page's head is -/
def headL (kind n id gen : Nat) : List UInt8 := le 1 kind ++ (le 1 0 ++ (le 2 n ++ (le 4 id ++ (le 8 gen ++ le 4 0))))
theorem headL_length (kind n id gen : Nat) : (headL kind n id gen).length = 20 := by simp [headL, le_length]
def pad (n : Nat) : List UInt8 := List.replicate n 0
/-- a block without its sum -/
def bare (p : Page) (size : Nat) : List UInt8 := headL p.kind.toNat p.body.length p.id.toNat p.gen ++ (p.body ++ pad (size - 24 - p.body.length))
def sealL (p : Page) (size : Nat) : List UInt8 := bare p size ++ le 4 (Crc.sum (bare p size)).toNat

def sized (size : Int) : Bool := decide (256 ≤ size) && decide (size ≤ 1024)
/-- why a page is not right -/
def checkC (p : Page) (size : Int) : Nat :=
  if sized size = false then 2 else if p.kind < 1 ∨ 5 < p.kind ∨ p.id < 0 ∨ 255 < p.id ∨ size - 24 < (p.body.length : Int) then 1 else 0

theorem check_ok {p : Page} {size : Int} (h : checkC p size = 0) : (256 ≤ size ∧ size ≤ 1024) ∧ (1 ≤ p.kind ∧ p.kind ≤ 5) ∧ (0 ≤ p.id ∧ p.id ≤ 255) ∧ (p.body.length : Int) ≤ size - 24 := by
  unfold checkC at h
  split at h
  · cases h
  · rename_i h1
    split at h
    · cases h
    · rename_i h2
      have : 256 ≤ size ∧ size ≤ 1024 := by unfold sized at h1; simpa using h1
      omega
theorem check_mk {p : Page} {size : Int} (h1 : 256 ≤ size ∧ size ≤ 1024) (h2 : 1 ≤ p.kind ∧ p.kind ≤ 5) (h3 : 0 ≤ p.id ∧ p.id ≤ 255) (h4 : (p.body.length : Int) ≤ size - 24) : checkC p size = 0 := by
  unfold checkC sized
  rw [if_neg (by simp; omega), if_neg (by omega)]

theorem bare_length {p : Page} {size : Nat} (h : 24 + p.body.length ≤ size) : (bare p size).length = size - 4 := by
  unfold bare pad
  simp only [List.length_append, headL_length, List.length_replicate]
  omega
theorem seal_length {p : Page} {size : Nat} (h : 24 + p.body.length ≤ size) : (sealL p size).length = size := by
  unfold sealL
  rw [List.length_append, bare_length h, le_length]
  omega

/-! ### what a block says -/
def num (l : List UInt8) (at_ w : Nat) : Nat := unle ((l.drop at_).take w)
def readL (l : List UInt8) : Page :=
  ⟨(num l 0 1 : Nat), (num l 4 4 : Nat), num l 8 8, if num l 2 2 ≤ l.length - 24 then (l.drop 20).take (num l 2 2) else []⟩
theorem num_lt (l : List UInt8) (at_ w : Nat) : num l at_ w < 256 ^ w := by
  unfold num
  refine Nat.lt_of_lt_of_le (unle_lt _) ?_
  exact Nat.pow_le_pow_right (by decide) (by rw [List.length_take]; omega)
/-- a number's place in bytes -/
theorem num_of {l a c : List UInt8} {w n : Nat} (h : l = a ++ (le w n ++ c)) (hn : n < 256 ^ w) : num l a.length w = n := by
  subst h
  unfold num
  rw [List.drop_left, List.take_append_of_le_length (by rw [le_length]; exact Nat.le_refl _), List.take_of_length_le (by rw [le_length]; exact Nat.le_refl _)]
  exact unle_le w n hn
theorem le_num {l : List UInt8} {at_ w : Nat} (h : at_ + w ≤ l.length) : le w (num l at_ w) = (l.drop at_).take w := by
  unfold num
  have hl : ((l.drop at_).take w).length = w := by rw [List.length_take, List.length_drop]; omega
  have := le_unle ((l.drop at_).take w)
  rwa [hl] at this

theorem read_head {kind n id gen : Nat} {c : List UInt8} (h1 : kind < 256) (h2 : n < 65536) (h3 : id < 4294967296) (h4 : gen < 18446744073709551616) :
    num (headL kind n id gen ++ c) 0 1 = kind ∧ num (headL kind n id gen ++ c) 2 2 = n ∧ num (headL kind n id gen ++ c) 4 4 = id ∧ num (headL kind n id gen ++ c) 8 8 = gen := by
  refine ⟨?_, ?_, ?_, ?_⟩
  · exact num_of (a := []) (c := le 1 0 ++ (le 2 n ++ (le 4 id ++ (le 8 gen ++ (le 4 0 ++ c))))) (by simp [headL, List.append_assoc]) h1
  · have := num_of (l := headL kind n id gen ++ c) (a := le 1 kind ++ le 1 0) (c := le 4 id ++ (le 8 gen ++ (le 4 0 ++ c))) (w := 2) (n := n) (by simp [headL, List.append_assoc]) h2
    simpa [le_length] using this
  · have := num_of (l := headL kind n id gen ++ c) (a := le 1 kind ++ (le 1 0 ++ le 2 n)) (c := le 8 gen ++ (le 4 0 ++ c)) (w := 4) (n := id) (by simp [headL, List.append_assoc]) h3
    simpa [le_length] using this
  · have := num_of (l := headL kind n id gen ++ c) (a := le 1 kind ++ (le 1 0 ++ (le 2 n ++ le 4 id))) (c := le 4 0 ++ c) (w := 8) (n := gen) (by simp [headL, List.append_assoc]) h4
    simpa [le_length] using this

theorem read_seal {p : Page} {size : Nat} (hc : checkC p size = 0) (hg : p.gen < 18446744073709551616) : readL (sealL p size) = p := by
  obtain ⟨h1, h2, h3, h4⟩ := check_ok hc
  have hl := seal_length (p := p) (size := size) (by omega)
  have e : sealL p size = headL p.kind.toNat p.body.length p.id.toNat p.gen ++ (p.body ++ (pad (size - 24 - p.body.length) ++ le 4 (Crc.sum (bare p size)).toNat)) := by
    unfold sealL
    simp [bare, List.append_assoc]
  obtain ⟨r1, r2, r3, r4⟩ := read_head (kind := p.kind.toNat) (n := p.body.length) (id := p.id.toNat) (gen := p.gen) (c := p.body ++ (pad (size - 24 - p.body.length) ++ le 4 (Crc.sum (bare p size)).toNat)) (by omega) (by omega) (by omega) hg
  rw [← e] at r1 r2 r3 r4
  have hb : (List.drop 20 (sealL p size)).take p.body.length = p.body := by
    rw [e, List.drop_append, List.drop_of_length_le (by rw [headL_length]; exact Nat.le_refl _), headL_length]
    simp
  unfold readL
  rw [r1, r2, r3, r4, hl, if_pos (by omega), hb]
  obtain ⟨k, i, g, b⟩ := p
  simp only [Page.mk.injEq]
  simp only at h2 h3
  exact ⟨by omega, by omega, trivial, trivial⟩

/-- the page of a block: the page, the code, the page that the fault names -/
def named (l : List UInt8) : Int := if num l 4 4 ≤ 255 then (num l 4 4 : Nat) else -1
def opens (l : List UInt8) : Prop := checkC (readL l) l.length = 0 ∧ sealL (readL l) l.length = l
instance (l : List UInt8) : Decidable (opens l) := by unfold opens; infer_instance
def openL (l : List UInt8) : Page × Nat × Int :=
  if sized l.length = false then (zero, 2, -1) else if opens l then (readL l, 0, -1) else (zero, 5, named l)
def openAtL (l : List UInt8) (id : Int) : Page × Nat × Int :=
  if (openL l).2.1 ≠ 0 then openL l else if (openL l).1.id ≠ id then (zero, 5, max id (-1)) else openL l

theorem open_code (l : List UInt8) : (openL l).2.1 = 0 ↔ opens l := by
  unfold openL
  constructor
  · intro h
    split at h
    · cases h
    · split at h
      · assumption
      · cases h
  · intro h
    have h1 := (check_ok h.1).1
    have hsz : sized (l.length : Int) = true := by unfold sized; simp; omega
    rw [if_neg (by rw [hsz]; decide), if_pos h]
theorem open_page {l : List UInt8} (h : opens l) : openL l = (readL l, 0, -1) := by
  have h2 := (open_code l).2 h
  unfold openL at h2 ⊢
  split at h2
  · cases h2
  · rw [if_neg (by assumption), if_pos h]
theorem open_not {l : List UInt8} (h : ¬ opens l) : (openL l).1 = zero := by
  unfold openL
  split
  · rfl
  · rfl
theorem opens_seal {p : Page} {size : Nat} (hc : checkC p size = 0) (hg : p.gen < 18446744073709551616) : opens (sealL p size) ∧ readL (sealL p size) = p := by
  have hr := read_seal hc hg
  obtain ⟨h1, h2, h3, h4⟩ := check_ok hc
  have hl := seal_length (p := p) (size := size) (by omega)
  refine ⟨⟨?_, ?_⟩, hr⟩
  · rw [hr, hl]; exact hc
  · rw [hr, hl]
theorem read_gen (l : List UInt8) : (readL l).gen < 18446744073709551616 := num_lt l 8 8

/-- a block whose text says more bytes than there are opens not -/
theorem opens_len {l : List UInt8} (h : opens l) : num l 2 2 ≤ l.length - 24 ∧ num l 4 4 ≤ 255 := by
  obtain ⟨hc, hs⟩ := h
  obtain ⟨h1, h2, h3, h4⟩ := check_ok hc
  refine ⟨?_, ?_⟩
  · false_or_by_contra
    rename_i hn
    have hb : (readL l).body = [] := by unfold readL; rw [if_neg hn]
    have hr := read_seal hc (read_gen l)
    have e : num (sealL (readL l) l.length) 2 2 = 0 := by
      have e : sealL (readL l) l.length = headL (readL l).kind.toNat (readL l).body.length (readL l).id.toNat (readL l).gen ++ ((readL l).body ++ (pad (l.length - 24 - (readL l).body.length) ++ le 4 (Crc.sum (bare (readL l) l.length)).toNat)) := by
        unfold sealL
        simp [bare, List.append_assoc]
      rw [e, (read_head (by omega) (by rw [hb]; simp) (by omega) (read_gen l)).2.1, hb]
      rfl
    rw [hs] at e
    omega
  · have : (readL l).id = (num l 4 4 : Nat) := rfl
    omega

/-! ### bursts -/
theorem val_le (n : Crc.W) : Crc.val (Crc.bitsOf (le 4 n.toNat)) = n := by
  apply BitVec.eq_of_getLsbD_eq
  intro i hi
  rw [Crc.val_bit _ _ hi, Crc.bitsOf_get]
  have hx : (le 4 n.toNat)[i / 8]? = some (UInt8.ofNat (n.toNat / 256 ^ (i / 8))) := by
    have h4 : i / 8 < 4 := by omega
    rcases (show i / 8 = 0 ∨ i / 8 = 1 ∨ i / 8 = 2 ∨ i / 8 = 3 by omega) with h | h | h | h <;> rw [h] <;> simp [le, Nat.div_div_eq_div_mul]
  rw [hx]
  simp only [Option.map_some, Option.getD_some]
  rw [BitVec.getLsbD, BitVec.getLsbD]
  show (UInt8.ofNat (n.toNat / 256 ^ (i / 8))).toNat.testBit (i % 8) = n.toNat.testBit i
  rw [UInt8.toNat_ofNat', show (256 : Nat) = 2 ^ 8 from rfl, ← Nat.pow_mul]
  rw [Nat.testBit_mod_two_pow, Nat.testBit_div_two_pow]
  have : i % 8 < 8 := Nat.mod_lt _ (by decide)
  simp only [this, decide_true, Bool.true_and]
  congr 1
  omega
/-- bytes with their sum behind them have one sum, whatever they are -/
theorem sum_sum (m : List UInt8) : Crc.sum (m ++ le 4 (Crc.sum m).toNat) = ~~~(Crc.itn 32 (BitVec.allOnes 32)) := by
  unfold Crc.sum Crc.more
  rw [Crc.run_append, ← Crc.fold_bits (Crc.run _ m) (le 4 _)]
  rw [Crc.fold_val _ _ (by rw [Crc.bitsOf_length, le_length]; decide), Crc.bitsOf_length, le_length, val_le]
  congr 2
  have e : ∀ r : BitVec 32, r ^^^ ~~~r = BitVec.allOnes 32 := fun r => by
    ext i hi
    rw [BitVec.getElem_xor, BitVec.getElem_not, BitVec.getElem_allOnes]
    cases r[i] <;> rfl
  exact e _
theorem sum_opens {l : List UInt8} (h : opens l) : Crc.sum l = ~~~(Crc.itn 32 (BitVec.allOnes 32)) := by
  rw [← h.2]
  exact sum_sum _
end Go.Proofs.YtflbioiildndoaaDoor.Pg
