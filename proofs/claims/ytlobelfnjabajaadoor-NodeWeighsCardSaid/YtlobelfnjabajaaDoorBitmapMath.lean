/- the plain law of bitmaps: which maps are right, the bits of a map -/
import Derived.Test.YtlobelfnjabajaaDoorPageMath
namespace Go.Proofs.YtlobelfnjabajaaDoor.Bm
open Fld Pg

/-- a map -/
structure Map where
  gen : Nat
  blocks : Int
  used : List Int
def zero : Map := ⟨0, 0, []⟩
/-- the number at a place -/
def at_ (l : List Int) (i : Nat) : Int := l.getD i 0
theorem at_of {l : List Int} {i : Nat} {n : Int} (h : l[i]? = some n) : at_ l i = n := by simp [at_, h]
theorem at_get {l : List Int} {i : Nat} (h : i < l.length) : l[i]? = some (at_ l i) := by simp [at_, h]
/-- is the number at a place as it must be? the program's words -/
def okAt (blocks : Int) (l : List Int) (i : Nat) : Prop := (i < 6 → at_ l i = (i : Int)) ∧ 0 ≤ at_ l i ∧ at_ l i < blocks ∧ (0 < i → at_ l (i - 1) < at_ l i)
def Right (m : Map) : Prop := 8 ≤ m.blocks ∧ m.blocks ≤ 256 ∧ 6 ≤ m.used.length ∧ (m.used.length : Int) ≤ m.blocks ∧ ∀ i, i < m.used.length → okAt m.blocks m.used i
/-- the document's words -/
def ordAt (blocks : Int) (l : List Int) (i : Nat) : Prop := 0 ≤ at_ l i ∧ at_ l i < blocks ∧ (0 < i → at_ l (i - 1) < at_ l i)
def RefRight (m : Map) : Prop := 8 ≤ m.blocks ∧ m.blocks ≤ 256 ∧ m.used.length ≤ 256 ∧ (∀ i, i < m.used.length → ordAt m.blocks m.used i) ∧ ∀ i : Nat, i < 6 → (i : Int) ∈ m.used
theorem rising {blocks : Int} {l : List Int} (h : ∀ i, i < l.length → ordAt blocks l i) (i : Nat) : ∀ k, i + k < l.length → at_ l i + (k : Int) ≤ at_ l (i + k)
  | 0, _ => by simp
  | k + 1, hk => by
    have h1 := rising h i k (by omega)
    have h2 := (h (i + (k + 1)) hk).2.2 (by omega)
    rw [show i + (k + 1) - 1 = i + k by omega] at h2
    omega
theorem right_iff (m : Map) : Right m ↔ RefRight m := by
  constructor
  · rintro ⟨h1, h2, h3, h4, h5⟩
    refine ⟨h1, h2, by omega, fun i hi => (h5 i hi).2, fun i hi => ?_⟩
    have h := (h5 i (by omega)).1 hi
    have hg := at_get (l := m.used) (i := i) (by omega)
    rw [h] at hg
    exact List.mem_of_getElem? hg
  · rintro ⟨h1, h2, h3, h4, h5⟩
    have key : ∀ i : Nat, i < 6 → i < m.used.length ∧ at_ m.used i = (i : Int) := by
      intro i
      induction i using Nat.strongRecOn with
      | _ i ih =>
        intro hi
        obtain ⟨k, hk⟩ := List.getElem?_of_mem (h5 i hi)
        have hkl : k < m.used.length := (List.getElem?_eq_some_iff.1 hk).1
        have hka := at_of hk
        rcases Nat.lt_trichotomy k i with h | h | h
        · have := (ih k h (by omega)).2
          omega
        · subst h
          exact ⟨hkl, hka⟩
        · exfalso
          have hr := rising h4 i (k - i) (by omega)
          rw [show i + (k - i) = k by omega, hka] at hr
          have ho := h4 i (by omega)
          by_cases h0 : i = 0
          · subst h0
            have := ho.1
            omega
          · have hp := (ih (i - 1) (by omega) (by omega)).2
            have := ho.2.2 (by omega)
            omega
    have hlen : 6 ≤ m.used.length := by have := (key 5 (by decide)).1; omega
    refine ⟨h1, h2, hlen, ?_, fun i hi => ⟨fun h6 => (key i h6).2, h4 i hi⟩⟩
    have hr := rising h4 0 (m.used.length - 1) (by omega)
    have h0 := (h4 0 (by omega)).1
    have hlast := (h4 (m.used.length - 1) (by omega)).2.1
    rw [Nat.zero_add] at hr
    omega
theorem right_lt {m : Map} (h : Right m) {n : Int} (hn : n ∈ m.used) : 0 ≤ n ∧ n < m.blocks := by
  obtain ⟨i, hi⟩ := List.getElem?_of_mem hn
  have hl := (List.getElem?_eq_some_iff.1 hi).1
  have := h.2.2.2.2 i hl
  rw [← at_of hi]
  exact ⟨this.2.1, this.2.2.1⟩

/-! ### the bits -/
/-- the bits of a byte, from the highest one on, so many of them -/
def bitX (l : List Int) (i : Nat) : Nat → Nat
  | 0 => 0
  | t + 1 => 2 * bitX l i t + if ((8 * i + (7 - t) : Nat) : Int) ∈ l then 1 else 0
theorem bitX_lt (l : List Int) (i : Nat) : ∀ t, bitX l i t < 2 ^ t
  | 0 => by simp [bitX]
  | t + 1 => by
    have := bitX_lt l i t
    rw [bitX, Nat.pow_succ]
    split <;> omega
theorem bitX_bit (l : List Int) (i : Nat) : ∀ t, t ≤ 8 → ∀ j, (bitX l i t).testBit j = (decide (j < t) && decide (((8 * i + (8 - t) + j : Nat) : Int) ∈ l))
  | 0, _, j => by simp [bitX]
  | t + 1, ht, 0 => by
    rw [Nat.testBit_zero, bitX]
    have e : 8 * i + (8 - (t + 1)) + 0 = 8 * i + (7 - t) := by omega
    rw [e]
    by_cases h : ((8 * i + (7 - t) : Nat) : Int) ∈ l
    · rw [if_pos h, decide_eq_true h]; simp
    · rw [if_neg h, decide_eq_false h]; simp
  | t + 1, ht, j + 1 => by
    rw [Nat.testBit_succ, bitX]
    have e : (2 * bitX l i t + if ((8 * i + (7 - t) : Nat) : Int) ∈ l then 1 else 0) / 2 = bitX l i t := by split <;> omega
    rw [e, bitX_bit l i t (by omega) j]
    have e2 : 8 * i + (8 - (t + 1)) + (j + 1) = 8 * i + (8 - t) + j := by omega
    rw [e2]
    congr 1
    simp
def byteOf (l : List Int) (i : Nat) : UInt8 := UInt8.ofNat (bitX l i 8)
theorem byteOf_nat (l : List Int) (i : Nat) : (byteOf l i).toNat = bitX l i 8 := by
  unfold byteOf
  rw [UInt8.toNat_ofNat']
  exact Nat.mod_eq_of_lt (bitX_lt l i 8)
theorem byteOf_bit (l : List Int) (i j : Nat) (hj : j < 8) : (byteOf l i).toNat.testBit j = decide (((8 * i + j : Nat) : Int) ∈ l) := by
  rw [byteOf_nat, bitX_bit l i 8 (Nat.le_refl _)]
  simp [hj]
def bitsL (blocks : Nat) (l : List Int) : List UInt8 := (List.range ((blocks + 7) / 8)).map (byteOf l)
theorem bitsL_length (blocks : Nat) (l : List Int) : (bitsL blocks l).length = (blocks + 7) / 8 := by simp [bitsL]
theorem byte_ext {a b : UInt8} (h : ∀ j, j < 8 → a.toNat.testBit j = b.toNat.testBit j) : a = b := by
  apply UInt8.toNat_inj.1
  apply Nat.eq_of_testBit_eq
  intro j
  by_cases hj : j < 8
  · exact h j hj
  · have ha : a.toNat < 2 ^ j := Nat.lt_of_lt_of_le a.toNat_lt (Nat.pow_le_pow_right (by decide) (by omega : 8 ≤ j))
    have hb : b.toNat < 2 ^ j := Nat.lt_of_lt_of_le b.toNat_lt (Nat.pow_le_pow_right (by decide) (by omega : 8 ≤ j))
    rw [Nat.testBit_lt_two_pow ha, Nat.testBit_lt_two_pow hb]
/-- one number more -/
theorem byteOf_snoc (l : List Int) (n i : Nat) : byteOf (l ++ [(n : Int)]) i = if n / 8 = i then byteOf l i ||| UInt8.ofNat (2 ^ (n % 8)) else byteOf l i := by
  apply byte_ext
  intro j hj
  rw [byteOf_bit _ _ _ hj]
  split
  · rename_i h
    rw [UInt8.toNat_or, Nat.testBit_or, byteOf_bit _ _ _ hj, UInt8.toNat_ofNat']
    have hp : 2 ^ (n % 8) % 2 ^ 8 = 2 ^ (n % 8) := Nat.mod_eq_of_lt (Nat.pow_lt_pow_right (by decide) (Nat.mod_lt _ (by decide)))
    have hiff : ((8 * i + j : Nat) : Int) = (n : Int) ↔ n % 8 = j := by omega
    rw [hp, Nat.testBit_two_pow, Bool.eq_iff_iff, Bool.or_eq_true, decide_eq_true_iff, decide_eq_true_iff, decide_eq_true_iff, List.mem_append, List.mem_singleton, hiff]
  · rename_i h
    have hne : ¬ ((8 * i + j : Nat) : Int) = (n : Int) := by omega
    rw [byteOf_bit _ _ _ hj, Bool.eq_iff_iff, decide_eq_true_iff, decide_eq_true_iff, List.mem_append, List.mem_singleton, or_iff_left hne]
theorem byteOf_nil (i : Nat) : byteOf [] i = 0 := by
  apply byte_ext
  intro j hj
  rw [byteOf_bit _ _ _ hj]
  simp
theorem bitsL_snoc (blocks : Nat) (l : List Int) (n : Nat) (hn : n < blocks) :
    ∃ x, (bitsL blocks l)[n / 8]? = some x ∧ bitsL blocks (l ++ [(n : Int)]) = (bitsL blocks l).set (n / 8) (x ||| UInt8.ofNat (2 ^ (n % 8))) := by
  refine ⟨byteOf l (n / 8), by unfold bitsL; rw [List.getElem?_map, List.getElem?_range (by omega)]; rfl, ?_⟩
  apply List.ext_getElem?
  intro i
  rw [List.getElem?_set]
  unfold bitsL
  simp only [List.getElem?_map, List.length_map, List.length_range]
  by_cases hi : i < (blocks + 7) / 8
  · rw [List.getElem?_range hi]
    simp only [Option.map_some, byteOf_snoc]
    by_cases h : n / 8 = i
    · subst h; simp [hi]
    · simp [h]
  · rw [List.getElem?_eq_none (by simp; omega)]
    simp only [Option.map_none]
    split
    · rw [if_neg (by omega)]
    · rfl

/-! ### the block of a map -/
instance (b : Int) (l : List Int) (i : Nat) : Decidable (okAt b l i) := by unfold okAt; infer_instance
instance (m : Map) : Decidable (Right m) := by unfold Right; infer_instance
def bodyL (m : Map) : List UInt8 := le 4 m.blocks.toNat ++ (le 4 m.used.length ++ bitsL m.blocks.toNat m.used)
theorem bodyL_length (m : Map) : (bodyL m).length = 8 + (m.blocks.toNat + 7) / 8 := by simp [bodyL, le_length, bitsL_length]; omega
def pageOf (m : Map) (at_ : Int) : Page := ⟨5, at_, m.gen, bodyL m⟩
def sealB (m : Map) (at_ : Int) (size : Nat) : List UInt8 := sealL (pageOf m at_) size
def first (gen : Nat) : Int := 2 + 2 * ((gen : Int) % 2)
def one (gen : Nat) (at_ : Int) : Prop := at_ = first gen ∨ at_ = first gen + 1
instance (gen : Nat) (at_ : Int) : Decidable (one gen at_) := by unfold one; infer_instance
theorem one_bd {gen : Nat} {at_ : Int} (h : one gen at_) : 2 ≤ at_ ∧ at_ ≤ 5 := by unfold one first at h; omega
/-- why there is no block of a map -/
def sealC (m : Map) (at_ size : Int) : Nat := if Right m then (if one m.gen at_ ∧ 256 ≤ size ∧ size ≤ 1024 then 0 else 2) else 1
theorem check_page {m : Map} {at_ : Int} {size : Nat} (h : Right m) (ha : 0 ≤ at_ ∧ at_ ≤ 255) (hs : 256 ≤ size ∧ size ≤ 1024) : checkC (pageOf m at_) (size : Nat) = 0 := by
  refine check_mk (by omega) (by simp [pageOf]) (by simpa [pageOf] using ha) ?_
  have h1 := h.1
  have h2 := h.2.1
  simp only [pageOf, bodyL_length]
  omega
theorem seal_len {m : Map} {at_ : Int} {size : Nat} (h : Right m) (hs : 256 ≤ size) : (sealB m at_ size).length = size := by
  have h1 := h.1
  have h2 := h.2.1
  exact seal_length (by simp only [pageOf, bodyL_length]; omega)

/-! ### what a page says -/
def bitAt (b : List UInt8) (i : Nat) : Bool := match b[8 + i / 8]? with | some x => x.toNat.testBit (i % 8) | none => false
def usedOf (b : List UInt8) (n : Nat) : List Int := ((List.range n).filter (bitAt b)).map fun (i : Nat) => (i : Int)
/-- numbers in their order are those of a range that are among them -/
theorem sorted_range : ∀ (n : Nat) (l : List Nat), (∀ i j, i < j → j < l.length → l.getD i 0 < l.getD j 0) → (∀ x ∈ l, x < n) → (List.range n).filter (fun i => decide (i ∈ l)) = l
  | 0, l, _, h => by
    cases l with
    | nil => rfl
    | cons a l => exact absurd (h a List.mem_cons_self) (by omega)
  | n + 1, l, hs, h => by
    rw [List.range_succ, List.filter_append]
    by_cases hn : n ∈ l
    · -- the last one is n
      have hl : l ≠ [] := fun e => by rw [e] at hn; cases hn
      obtain ⟨k, hk⟩ := List.getElem?_of_mem hn
      have hkl := (List.getElem?_eq_some_iff.1 hk).1
      have hkn : l.getD k 0 = n := by simp [hk]
      have hlast : k = l.length - 1 := by
        false_or_by_contra
        have h1 := hs k (l.length - 1) (by omega) (by omega)
        have h2 : l.getD (l.length - 1) 0 ∈ l := by
          have : l[l.length - 1]? = some (l.getD (l.length - 1) 0) := by simp [show l.length - 1 < l.length by omega]
          exact List.mem_of_getElem? this
        have := h _ h2
        omega
      have hdl : l.dropLast ++ [n] = l := by
        have h3 : l.getLast hl = n := by
          rw [List.getLast_eq_getElem]
          have := (List.getElem?_eq_some_iff.1 hk).2
          simp only [hlast] at this
          exact this
        rw [← h3]
        exact List.dropLast_concat_getLast hl
      have ih := sorted_range n l.dropLast (fun i j hij hj => by
        have hj' : j < l.length - 1 := by simpa using hj
        have := hs i j hij (by omega)
        have e1 : l.dropLast.getD i 0 = l.getD i 0 := by
          rw [List.getD_eq_getElem?_getD, List.getD_eq_getElem?_getD, List.getElem?_dropLast, if_pos (by omega)]
        have e2 : l.dropLast.getD j 0 = l.getD j 0 := by
          rw [List.getD_eq_getElem?_getD, List.getD_eq_getElem?_getD, List.getElem?_dropLast, if_pos (by omega)]
        rw [e1, e2]
        exact this) (fun x hx => by
        have hx2 : x ∈ l := (List.dropLast_sublist l).subset hx
        have := h x hx2
        obtain ⟨i, hi⟩ := List.getElem?_of_mem hx
        have hil : i < l.length - 1 := by have := (List.getElem?_eq_some_iff.1 hi).1; simpa using this
        have h4 := hs i k (by omega) hkl
        rw [hkn] at h4
        have h5 : l.getD i 0 = x := by
          rw [List.getElem?_dropLast, if_pos hil] at hi
          simp [hi]
        omega)
      have e1 : (List.range n).filter (fun i => decide (i ∈ l)) = (List.range n).filter (fun i => decide (i ∈ l.dropLast)) := by
        apply List.filter_congr
        intro i hi
        have hin : i < n := List.mem_range.1 hi
        rw [Bool.eq_iff_iff, decide_eq_true_iff, decide_eq_true_iff]
        constructor
        · intro hm
          rw [← hdl] at hm
          rcases List.mem_append.1 hm with hm | hm
          · exact hm
          · simp at hm; omega
        · exact fun hm => (List.dropLast_sublist l).subset hm
      rw [e1, ih]
      simp [hn, hdl]
    · rw [sorted_range n l hs (fun x hx => by
        have := h x hx
        have : x ≠ n := fun e => hn (e ▸ hx)
        omega)]
      simp [hn]
theorem bitAt_body (m : Map) (i : Nat) (hi : i < m.blocks.toNat) : bitAt (bodyL m) i = decide ((i : Int) ∈ m.used) := by
  have hx : (bodyL m)[8 + i / 8]? = some (byteOf m.used (i / 8)) := by
    unfold bodyL
    rw [List.getElem?_append_right (by rw [le_length]; omega), List.getElem?_append_right (by rw [le_length, le_length]; omega)]
    simp only [le_length]
    rw [show 8 + i / 8 - 4 - 4 = i / 8 by omega]
    unfold bitsL
    rw [List.getElem?_map, List.getElem?_range (by omega)]
    rfl
  unfold bitAt
  rw [hx]
  simp only
  rw [byteOf_bit _ _ _ (Nat.mod_lt _ (by decide)), show 8 * (i / 8) + i % 8 = i by omega]
theorem used_body {m : Map} (h : Right m) : usedOf (bodyL m) m.blocks.toNat = m.used := by
  unfold usedOf
  have hge : ∀ x ∈ m.used, 0 ≤ x ∧ x < m.blocks := fun x hx => right_lt h hx
  have e0 : (m.used.map Int.toNat).map (fun (i : Nat) => (i : Int)) = m.used := by
    rw [List.map_map]
    conv => rhs; rw [← List.map_id m.used]
    apply List.map_congr_left
    intro x hx
    have := hge x hx
    simp only [Function.comp, id]
    omega
  have e1 : (List.range m.blocks.toNat).filter (bitAt (bodyL m)) = (List.range m.blocks.toNat).filter (fun i => decide (i ∈ m.used.map Int.toNat)) := by
    apply List.filter_congr
    intro i hi
    rw [bitAt_body m i (List.mem_range.1 hi), Bool.eq_iff_iff, decide_eq_true_iff, decide_eq_true_iff, List.mem_map]
    constructor
    · exact fun hm => ⟨_, hm, by simp⟩
    · rintro ⟨x, hx, hxi⟩
      have := hge x hx
      have : x = (i : Int) := by omega
      exact this ▸ hx
  rw [e1, sorted_range m.blocks.toNat (m.used.map Int.toNat)]
  · exact e0
  · intro i j hij hj
    rw [List.length_map] at hj
    have hr := rising (fun k hk => (h.2.2.2.2 k hk).2) i (j - i) (by omega)
    rw [show i + (j - i) = j by omega] at hr
    have h1 := (h.2.2.2.2 i (by omega)).2.1
    have h2 := (h.2.2.2.2 j hj).2.1
    have g1 : (m.used.map Int.toNat).getD i 0 = (at_ m.used i).toNat := by
      rw [List.getD_eq_getElem?_getD, List.getElem?_map, at_get (by omega)]; rfl
    have g2 : (m.used.map Int.toNat).getD j 0 = (at_ m.used j).toNat := by
      rw [List.getD_eq_getElem?_getD, List.getElem?_map, at_get hj]; rfl
    rw [g1, g2]
    omega
  · intro x hx
    obtain ⟨y, hy, rfl⟩ := List.mem_map.1 hx
    have := hge y hy
    omega
theorem num_body {m : Map} (h : Right m) : num (bodyL m) 0 4 = m.blocks.toNat := by
  have h1 := h.2.1
  exact num_of (l := bodyL m) (a := []) (w := 4) (n := m.blocks.toNat) rfl (by omega)

/-! ### what opens -/
/-- what a page says: the program's words -/
def said (p : Page) : Map := if 4 ≤ p.body.length ∧ num p.body 0 4 ≤ 256 then ⟨p.gen, (num p.body 0 4 : Nat), usedOf p.body (num p.body 0 4)⟩ else zero
def mapOf (l : List UInt8) (gen : Nat) (blocks : Int) : Map := ⟨gen, blocks, usedOf (readL l).body blocks.toNat⟩
/-- does a block open? -/
def bmOk (l : List UInt8) (at_ : Int) (gen : Nat) (blocks : Int) : Prop :=
  opens l ∧ (readL l).id = at_ ∧ one gen at_ ∧ (readL l).kind = 5 ∧ (readL l).gen = gen ∧ Right (mapOf l gen blocks) ∧ sealB (mapOf l gen blocks) at_ l.length = l
instance (l : List UInt8) (at_ : Int) (gen : Nat) (blocks : Int) : Decidable (bmOk l at_ gen blocks) := by unfold bmOk; infer_instance
def bmOpen (l : List UInt8) (at_ : Int) (gen : Nat) (blocks : Int) : Option Map := if bmOk l at_ gen blocks then some (mapOf l gen blocks) else none
theorem read_sealB {m : Map} {at_ : Int} {size : Nat} (h : Right m) (ho : one m.gen at_) (hs : 256 ≤ size ∧ size ≤ 1024) (hg : m.gen < 18446744073709551616) : opens (sealB m at_ size) ∧ readL (sealB m at_ size) = pageOf m at_ := by
  have h1 := one_bd ho
  exact opens_seal (check_page (at_ := at_) h (by omega) hs) hg
/-- the program's way to it -/
theorem said_iff {l : List UInt8} {at_ : Int} {gen : Nat} {blocks : Int} (h1 : opens l) (h2 : (readL l).id = at_) (h3 : one gen at_) (h4 : (readL l).kind = 5) (h5 : (readL l).gen = gen) :
    (sealC (said (readL l)) at_ (l.length : Nat) = 0 ∧ (said (readL l)).blocks = blocks ∧ sealB (said (readL l)) at_ l.length = l) ↔ bmOk l at_ gen blocks := by
  have hlen := (check_ok h1.1).1
  have hgen := read_gen l
  constructor
  · rintro ⟨hc, hb, hse⟩
    have hr : Right (said (readL l)) := by
      unfold sealC at hc
      split at hc
      · assumption
      · cases hc
    have hsd : said (readL l) = mapOf l gen blocks := by
      unfold said mapOf at *
      split
      · rename_i hx
        rw [if_pos hx] at hb
        simp only at hb
        rw [h5, ← hb]
        simp
      · rename_i hx
        rw [if_neg hx] at hr
        exact absurd hr.1 (by simp [zero])
    rw [hsd] at hr hse
    exact ⟨h1, h2, h3, h4, h5, hr, hse⟩
  · rintro ⟨-, -, -, -, -, hr, hse⟩
    have hb : (readL l).body = bodyL (mapOf l gen blocks) := by
      have := (read_sealB (m := mapOf l gen blocks) (at_ := at_) (size := l.length) hr h3 (by omega) (by show gen < _; omega)).2
      rw [hse] at this
      rw [this]
      rfl
    have hn : num (readL l).body 0 4 = blocks.toNat := by rw [hb]; exact num_body hr
    have hsd : said (readL l) = mapOf l gen blocks := by
      have e1 := hr.1
      have e2 := hr.2.1
      simp only [mapOf] at e1 e2
      unfold said
      rw [if_pos, hn, h5]
      · unfold mapOf
        rw [show ((blocks.toNat : Nat) : Int) = blocks by omega]
      · rw [hn, hb, bodyL_length]
        constructor <;> omega
    rw [hsd]
    refine ⟨?_, rfl, hse⟩
    unfold sealC
    rw [if_pos hr, if_pos ⟨h3, by omega⟩]
/-- what was sealed opens -/
theorem mapOf_seal {m : Map} {at_ : Int} {size : Nat} (h : Right m) (ho : one m.gen at_) (hs : 256 ≤ size ∧ size ≤ 1024) (hg : m.gen < 18446744073709551616) : mapOf (sealB m at_ size) m.gen m.blocks = m := by
  obtain ⟨-, hr⟩ := read_sealB h ho hs hg
  unfold mapOf
  rw [hr]
  simp only [pageOf]
  rw [used_body h]
theorem open_seal {m : Map} {at_ : Int} {size : Nat} (h : Right m) (ho : one m.gen at_) (hs : 256 ≤ size ∧ size ≤ 1024) (hg : m.gen < 18446744073709551616) : bmOpen (sealB m at_ size) at_ m.gen m.blocks = some m := by
  obtain ⟨h1, hr⟩ := read_sealB h ho hs hg
  have hm := mapOf_seal h ho hs hg
  have hl := seal_len (at_ := at_) h hs.1
  unfold bmOpen
  rw [if_pos, hm]
  refine ⟨h1, by rw [hr]; rfl, ho, by rw [hr]; rfl, by rw [hr]; rfl, by rw [hm]; exact h, ?_⟩
  rw [hm, hl]
theorem open_other {m : Map} {at_ b : Int} {size gen : Nat} {blocks : Int} (h : Right m) (ho : one m.gen at_) (hs : 256 ≤ size ∧ size ≤ 1024) (hg : m.gen < 18446744073709551616)
    (hd : b ≠ at_ ∨ gen ≠ m.gen ∨ blocks ≠ m.blocks) : bmOpen (sealB m at_ size) b gen blocks = none := by
  obtain ⟨h1, hr⟩ := read_sealB h ho hs hg
  have hl := seal_len (at_ := at_) h hs.1
  unfold bmOpen
  rw [if_neg]
  intro hx
  have hs2 := hx
  obtain ⟨-, g2, g3, g4, g5, -, -⟩ := hx
  have hq := (said_iff h1 g2 g3 g4 g5).2 hs2
  rw [hr] at g2 g5
  rcases hd with hd | hd | hd
  · exact hd g2.symm
  · exact hd g5.symm
  · apply hd
    rw [← hq.2.1, hr]
    have hb := h.2.1
    have hb1 := h.1
    unfold said
    rw [if_pos]
    · simp only [pageOf]; rw [num_body h]; omega
    · simp only [pageOf]; rw [num_body h, bodyL_length]; constructor <;> omega
theorem open_some {l : List UInt8} {at_ : Int} {gen : Nat} {blocks : Int} {m : Map} (h : bmOpen l at_ gen blocks = some m) : Right m ∧ m.gen = gen ∧ m.blocks = blocks ∧ opens l ∧ one gen at_ := by
  unfold bmOpen at h
  split at h
  · rename_i hx
    obtain ⟨h1, h2, h3, h4, h5, h6, h7⟩ := hx
    simp only [Option.some.injEq] at h
    subst h
    exact ⟨h6, rfl, rfl, h1, h3⟩
  · cases h
theorem open_not {l : List UInt8} {at_ : Int} {gen : Nat} {blocks : Int} (h : ¬ opens l) : bmOpen l at_ gen blocks = none := by
  unfold bmOpen
  rw [if_neg]
  exact fun hx => h hx.1
end Go.Proofs.YtlobelfnjabajaaDoor.Bm
