/- the plain law of superblocks: the block of one, what a block says, which of two counts, one that is torn -/
import Derived.Test.YtaofhdoieffhhaaDoorPageMath
namespace Go.Proofs.YtaofhdoieffhhaaDoor.Su
open Fld Pg

structure Sup where
  gen : Nat
  blocks : Int
  size : Int
  root : Int
  keys : Int
def zero : Sup := ⟨0, 0, 0, 0, 0⟩
/-- may a geometry be? -/
def rightG (blocks size : Int) : Bool := decide (8 ≤ blocks) && (decide (blocks ≤ 256) && (decide (256 ≤ size) && decide (size ≤ 1024)))
def right (s : Sup) : Bool := rightG s.blocks s.size && (decide (0 ≤ s.keys) && (decide (s.keys ≤ 2147483647) && (if s.root = 0 then decide (s.keys = 0) else decide (2 ≤ s.root) && decide (s.root < s.blocks))))
theorem rightG_iff {b s : Int} : rightG b s = true ↔ 8 ≤ b ∧ b ≤ 256 ∧ 256 ≤ s ∧ s ≤ 1024 := by simp [rightG]
theorem right_iff {s : Sup} : right s = true ↔ (8 ≤ s.blocks ∧ s.blocks ≤ 256 ∧ 256 ≤ s.size ∧ s.size ≤ 1024) ∧ 0 ≤ s.keys ∧ s.keys ≤ 2147483647 ∧ (s.root = 0 ∧ s.keys = 0 ∨ 2 ≤ s.root ∧ s.root < s.blocks) := by
  unfold right
  simp only [Bool.and_eq_true, rightG_iff, decide_eq_true_eq]
  constructor
  · rintro ⟨h1, h2, h3, h4⟩
    split at h4
    · exact ⟨h1, h2, h3, .inl ⟨by assumption, by simpa using h4⟩⟩
    · exact ⟨h1, h2, h3, .inr (by simpa using h4)⟩
  · rintro ⟨h1, h2, h3, h4⟩
    refine ⟨h1, h2, h3, ?_⟩
    split
    · rcases h4 with h | h
      · simpa using h.2
      · omega
    · rcases h4 with h | h
      · exact absurd h.1 (by assumption)
      · simpa using h

def bodyL (s : Sup) : List UInt8 := le 4 s.blocks.toNat ++ (le 4 s.size.toNat ++ (le 4 s.root.toNat ++ (le 4 s.keys.toNat ++ le 8 s.gen)))
theorem bodyL_length (s : Sup) : (bodyL s).length = 24 := by simp [bodyL, le_length]
def pageOf (s : Sup) (at_ : Int) : Page := ⟨1, at_, s.gen, bodyL s⟩
def supSeal (s : Sup) (at_ : Int) : List UInt8 := sealL (pageOf s at_) s.size.toNat
/-- what a page says -/
def saidL (p : Page) : Sup := ⟨p.gen, (num p.body 0 4 : Nat), (num p.body 4 4 : Nat), (num p.body 8 4 : Nat), (num p.body 12 4 : Nat)⟩
def says (p : Page) : Bool := decide (p.body.length = 24) && (decide (num p.body 16 8 = p.gen) && (decide (p.kind = 1) && right (saidL p)))
def supOpens (l : List UInt8) (at_ : Int) : Prop := opens l ∧ (readL l).id = at_ ∧ says (readL l) = true ∧ (saidL (readL l)).size = (l.length : Int)
instance (l : List UInt8) (at_ : Int) : Decidable (supOpens l at_) := by unfold supOpens; infer_instance
def supOpen (l : List UInt8) (at_ : Int) : Option Sup := if supOpens l at_ then some (saidL (readL l)) else none

theorem check_page {s : Sup} {at_ : Int} (h : right s = true) (ha : 0 ≤ at_ ∧ at_ ≤ 255) : checkC (pageOf s at_) (s.size.toNat : Nat) = 0 := by
  obtain ⟨h1, h2⟩ := right_iff.1 h
  refine check_mk ?_ (by simp [pageOf]) (by simpa [pageOf] using ha) ?_
  · omega
  · simp only [pageOf, bodyL_length]; omega
theorem said_body {s : Sup} {at_ : Int} (h : right s = true) (hg : s.gen < 18446744073709551616) : saidL (pageOf s at_) = s ∧ num (bodyL s) 16 8 = s.gen := by
  obtain ⟨h1, h2, h3, h4⟩ := right_iff.1 h
  have n0 := num_of (l := bodyL s) (a := []) (w := 4) (n := s.blocks.toNat) rfl (by omega)
  have n1 := num_of (l := bodyL s) (a := le 4 s.blocks.toNat) (w := 4) (n := s.size.toNat) rfl (by omega)
  have n2 := num_of (l := bodyL s) (a := le 4 s.blocks.toNat ++ le 4 s.size.toNat) (w := 4) (n := s.root.toNat) (c := le 4 s.keys.toNat ++ le 8 s.gen) (by simp [bodyL, List.append_assoc]) (by omega)
  have n3 := num_of (l := bodyL s) (a := le 4 s.blocks.toNat ++ (le 4 s.size.toNat ++ le 4 s.root.toNat)) (w := 4) (n := s.keys.toNat) (c := le 8 s.gen) (by simp [bodyL, List.append_assoc]) (by omega)
  have n4 := num_of (l := bodyL s) (a := le 4 s.blocks.toNat ++ (le 4 s.size.toNat ++ (le 4 s.root.toNat ++ le 4 s.keys.toNat))) (w := 8) (n := s.gen) (c := []) (by simp [bodyL, List.append_assoc]) hg
  simp only [List.length_append, le_length, List.length_nil] at n0 n1 n2 n3 n4
  refine ⟨?_, n4⟩
  unfold saidL pageOf
  simp only
  rw [n0, n1, n2, n3]
  obtain ⟨g, b, z, r, k⟩ := s
  simp only at h1 h2 h3 h4
  simp only [Sup.mk.injEq, true_and]
  omega

theorem supOpen_seal {s : Sup} {at_ : Int} (h : right s = true) (ha : 0 ≤ at_ ∧ at_ ≤ 255) (hg : s.gen < 18446744073709551616) : supOpen (supSeal s at_) at_ = some s := by
  have hc := check_page h ha
  obtain ⟨ho, hr⟩ := opens_seal (size := s.size.toNat) hc hg
  obtain ⟨hs, hn⟩ := said_body (at_ := at_) h hg
  obtain ⟨h1, h2⟩ := right_iff.1 h
  have hl : (supSeal s at_).length = s.size.toNat := seal_length (by simp only [pageOf, bodyL_length]; omega)
  unfold supOpen
  rw [if_pos]
  · unfold supSeal; rw [hr, hs]
  · refine ⟨ho, by unfold supSeal; rw [hr]; rfl, ?_, ?_⟩
    · unfold supSeal; rw [hr]
      unfold says
      rw [hs, h]
      simp [pageOf, bodyL_length, hn]
    · rw [hl]; unfold supSeal; rw [hr, hs]; omega
theorem supOpen_at {s : Sup} {at_ b : Int} (h : right s = true) (ha : 0 ≤ at_ ∧ at_ ≤ 255) (hg : s.gen < 18446744073709551616) (hb : at_ ≠ b) : supOpen (supSeal s at_) b = none := by
  have hc := check_page h ha
  obtain ⟨ho, hr⟩ := opens_seal (size := s.size.toNat) hc hg
  unfold supOpen
  rw [if_neg]
  intro hx
  have := hx.2.1
  unfold supSeal at this
  rw [hr] at this
  exact hb this
/-- what opens is what was sealed -/
theorem supOpen_some {l : List UInt8} {at_ : Int} {s : Sup} (h : supOpen l at_ = some s) : right s = true ∧ l = supSeal s at_ ∧ s.gen < 18446744073709551616 ∧ s.gen = num l 8 8 ∧ s.gen = num (readL l).body 16 8 := by
  unfold supOpen at h
  split at h
  · rename_i hx
    obtain ⟨ho, hid, hsay, hsz⟩ := hx
    simp only [Option.some.injEq] at h
    have hsay2 := hsay
    unfold says at hsay2
    simp only [Bool.and_eq_true, decide_eq_true_eq] at hsay2
    obtain ⟨hb, hn, hk, hr⟩ := hsay2
    have hg := read_gen l
    subst h
    refine ⟨hr, ?_, hg, rfl, hn.symm⟩
    have hp : pageOf (saidL (readL l)) at_ = readL l := by
      have hbody : bodyL (saidL (readL l)) = (readL l).body := by
        generalize hq : (readL l).body = q at *
        generalize hgg : (readL l).gen = g at *
        unfold bodyL saidL
        simp only [Int.toNat_natCast, hq, hgg]
        rw [← hn, le_num (by omega), le_num (by omega), le_num (by omega), le_num (by omega), le_num (by omega)]
        have e : ∀ (m : List UInt8) (a w : Nat), (m.drop a).take w ++ m.drop (a + w) = m.drop a := by
          intro m a w
          rw [← List.drop_drop]
          exact List.take_append_drop w (m.drop a)
        have e5 : (q.drop 16).take 8 = q.drop 16 := List.take_of_length_le (by rw [List.length_drop]; omega)
        rw [e5, e q 12 4, e q 8 4, e q 4 4, e q 0 4]
        rfl
      unfold pageOf
      rw [hbody]
      have : (readL l) = ⟨(readL l).kind, (readL l).id, (readL l).gen, (readL l).body⟩ := rfl
      rw [this, hk, hid]
      rfl
    unfold supSeal
    rw [hp, hsz, Int.toNat_natCast]
    exact ho.2.symm
  · cases h

/-! ### which of two counts -/
def chooseL (a b : List UInt8) : Option (Sup × Int) :=
  match supOpen a 0, supOpen b 1 with
  | none, none => none
  | none, some t => some (t, 1)
  | some s, none => some (s, 0)
  | some s, some t => if s.gen < t.gen then some (t, 1) else some (s, 0)

/-! ### a block that is torn -/
def tornL (old b : List UInt8) (cut : Nat) : List UInt8 := b.take cut ++ old.drop cut
theorem tornL_at {old b : List UInt8} {cut i : Nat} (hl : old.length = b.length) : (tornL old b cut)[i]? = if i < cut then b[i]? else old[i]? := by
  unfold tornL
  by_cases hc : cut ≤ b.length
  · rw [List.getElem?_append, List.length_take, Nat.min_eq_left hc]
    split
    · rw [List.getElem?_take, if_pos (by assumption)]
    · rw [List.getElem?_drop]; congr 1; omega
  · rw [List.drop_of_length_le (by omega), List.append_nil, List.take_of_length_le (by omega)]
    split
    · rfl
    · rw [List.getElem?_eq_none (by omega), List.getElem?_eq_none (by omega)]
theorem num_congr {l m : List UInt8} {a w : Nat} (h : ∀ i, a ≤ i → i < a + w → l[i]? = m[i]?) : num l a w = num m a w := by
  unfold num
  congr 1
  apply List.ext_getElem?
  intro i
  rw [List.getElem?_take, List.getElem?_take]
  split
  · rw [List.getElem?_drop, List.getElem?_drop]
    exact h _ (by omega) (by omega)
  · rfl
theorem eq_of_num {l m : List UInt8} {a w : Nat} (hl : a + w ≤ l.length) (hm : a + w ≤ m.length) (h : num l a w = num m a w) (i : Nat) (h1 : a ≤ i) (h2 : i < a + w) : l[i]? = m[i]? := by
  have e : (l.drop a).take w = (m.drop a).take w := by rw [← le_num hl, ← le_num hm, h]
  have := congrArg (fun x => x[i - a]?) e
  simp only [List.getElem?_take, List.getElem?_drop] at this
  rw [if_pos (by omega), if_pos (by omega), show a + (i - a) = i by omega] at this
  exact this

/-- the bytes of a superblock's block -/
theorem seal_bytes {s : Sup} {at_ : Int} (_h : right s = true) : ∃ c, supSeal s at_ = le 1 1 ++ (le 1 0 ++ (le 2 24 ++ (le 4 at_.toNat ++ (le 8 s.gen ++ (le 4 0 ++ (bodyL s ++ c)))))) := by
  refine ⟨pad (s.size.toNat - 24 - 24) ++ le 4 (Crc.sum (bare (pageOf s at_) s.size.toNat)).toNat, ?_⟩
  unfold supSeal sealL
  simp [bare, headL, pageOf, bodyL_length, List.append_assoc]
/-- the body of a block of which as many bytes are the body's -/
theorem read_body {l : List UInt8} (h : num l 2 2 = 24) (hl : 48 ≤ l.length) : (readL l).body = (l.drop 20).take 24 := by
  unfold readL
  rw [h, if_pos (by omega)]
theorem num_body {l : List UInt8} {a w : Nat} (h : num l 2 2 = 24) (hl : 48 ≤ l.length) (ha : a + w ≤ 24) : num (readL l).body a w = num l (20 + a) w := by
  rw [read_body h hl]
  unfold num
  rw [List.drop_take, List.drop_drop, List.take_take, Nat.min_eq_left (by omega)]

/-- what was there: a superblock's block of a lesser generation, or bytes 0 -/
def OldIs (young : Sup) (old : List UInt8) : Prop := (∃ o, right o = true ∧ old = supSeal o 1 ∧ o.gen < 18446744073709551616 ∧ o.gen < young.gen ∧ o.size = young.size) ∨ old = List.replicate young.size.toNat 0
/-- what is torn opens as what was there, or as what was written, or not -/
theorem torn_opens {young : Sup} {old : List UInt8} {cut : Nat} (hy : right young = true) (hyg : young.gen < 18446744073709551616) (hy0 : 0 < young.gen) (hl : old.length = young.size.toNat)
    (hold : OldIs young old)
    (ht : supOpen (tornL old (supSeal young 1) cut) 1 ≠ none) :
    tornL old (supSeal young 1) cut = old ∨ tornL old (supSeal young 1) cut = supSeal young 1 := by
  obtain ⟨t, ht⟩ := Option.ne_none_iff_exists'.1 ht
  obtain ⟨hr, he, hg, hg1, hg2⟩ := supOpen_some ht
  obtain ⟨hy1, hy2⟩ := right_iff.1 hy
  have hly : (supSeal young 1).length = young.size.toNat := seal_length (by simp only [pageOf, bodyL_length]; omega)
  have hll : old.length = (supSeal young 1).length := by omega
  have hlt : (tornL old (supSeal young 1) cut).length = young.size.toNat := by
    unfold tornL
    rw [List.length_append, List.length_take, List.length_drop]
    omega
  generalize hT : tornL old (supSeal young 1) cut = T at *
  have hat : ∀ i, T[i]? = if i < cut then (supSeal young 1)[i]? else old[i]? := fun i => by rw [← hT]; exact tornL_at hll
  obtain ⟨cy, ey⟩ := seal_bytes (at_ := 1) hy
  obtain ⟨ct, et⟩ := seal_bytes (at_ := 1) hr
  have hsz : t.size = young.size := by
    have h1 : (supSeal t 1).length = t.size.toNat := seal_length (by obtain ⟨h1, _⟩ := right_iff.1 hr; simp only [pageOf, bodyL_length]; omega)
    rw [← he, hlt] at h1
    obtain ⟨h2, _⟩ := right_iff.1 hr
    omega
  -- the generation ahead and behind
  have gY : num (supSeal young 1) 8 8 = young.gen := by
    have := num_of (l := supSeal young 1) (a := le 1 1 ++ (le 1 0 ++ (le 2 24 ++ le 4 1))) (w := 8) (n := young.gen) (c := le 4 0 ++ (bodyL young ++ cy)) (by rw [ey]; simp [List.append_assoc]) hyg
    simpa [le_length] using this
  have lenT : num T 2 2 = 24 := by
    have := num_of (l := T) (a := le 1 1 ++ le 1 0) (w := 2) (n := 24) (c := le 4 1 ++ (le 8 t.gen ++ (le 4 0 ++ (bodyL t ++ ct)))) (by rw [he, et]; simp [List.append_assoc]) (by decide)
    simpa [le_length] using this
  have h48 : 48 ≤ T.length := by omega
  rw [num_body lenT h48 (by omega)] at hg2
  by_cases hc : 16 ≤ cut
  · -- the generation ahead is the young one's
    have hgt : t.gen = young.gen := by
      rw [hg1, ← gY]
      exact num_congr fun i _ hi => by rw [hat, if_pos (by omega)]
    have gYb : num (supSeal young 1) 36 8 = young.gen := by
      have := num_of (l := supSeal young 1) (a := le 1 1 ++ (le 1 0 ++ (le 2 24 ++ (le 4 1 ++ (le 8 young.gen ++ (le 4 0 ++ (le 4 young.blocks.toNat ++ (le 4 young.size.toNat ++ (le 4 young.root.toNat ++ le 4 young.keys.toNat))))))))) (w := 8) (n := young.gen) (c := cy) (by rw [ey]; simp [bodyL, List.append_assoc]) hyg
      simpa [le_length] using this
    by_cases hc2 : 36 ≤ cut
    · -- all numbers are the young one's
      right
      have lenY : num (supSeal young 1) 2 2 = 24 := by
        rw [← lenT]
        exact num_congr fun i _ hi => by rw [hat, if_pos (by omega)]
      have hb : bodyL t = bodyL young := by
        have e1 : (readL T).body = bodyL t := by
          have hp := (opens_seal (size := t.size.toNat) (check_page (at_ := 1) hr (by omega)) hg).2
          have : readL T = pageOf t 1 := by rw [he]; exact hp
          rw [this]; rfl
        have e2 : (readL (supSeal young 1)).body = bodyL young := by
          have hp := (opens_seal (size := young.size.toNat) (check_page (at_ := 1) hy (by omega)) hyg).2
          have : readL (supSeal young 1) = pageOf young 1 := hp
          rw [this]; rfl
        rw [← e1, ← e2, read_body lenT h48, read_body lenY (by omega)]
        apply List.ext_getElem?
        intro i
        rw [List.getElem?_take, List.getElem?_take]
        split
        · rw [List.getElem?_drop, List.getElem?_drop]
          by_cases hi : i < 16
          · rw [hat, if_pos (by omega)]
          · refine eq_of_num (a := 36) (w := 8) (by omega) (by omega) ?_ (20 + i) (by omega) (by omega)
            rw [gYb, ← hgt, hg2]
        · rfl
      have hpg : pageOf t 1 = pageOf young 1 := by unfold pageOf; rw [hb, hgt]
      rw [he]
      unfold supSeal
      rw [hpg, hsz]
    · -- the generation behind is the old one's
      exfalso
      have : num T 36 8 = num old 36 8 := num_congr fun i hi _ => by rw [hat, if_neg (by omega)]
      rw [this] at hg2
      unfold OldIs at hold
      rcases hold with ⟨o, ho, rfl, hog, hlt2, hoz⟩ | rfl
      · obtain ⟨co, eo⟩ := seal_bytes (at_ := 1) ho
        have gO : num (supSeal o 1) 36 8 = o.gen := by
          have := num_of (l := supSeal o 1) (a := le 1 1 ++ (le 1 0 ++ (le 2 24 ++ (le 4 1 ++ (le 8 o.gen ++ (le 4 0 ++ (le 4 o.blocks.toNat ++ (le 4 o.size.toNat ++ (le 4 o.root.toNat ++ le 4 o.keys.toNat))))))))) (w := 8) (n := o.gen) (c := co) (by rw [eo]; simp [bodyL, List.append_assoc]) hog
          simpa [le_length] using this
        omega
      · have hz : num (List.replicate young.size.toNat (0 : UInt8)) 36 8 = 0 := by
          unfold num
          rw [List.drop_replicate, List.take_replicate, show min 8 (young.size.toNat - 36) = 8 by omega]
          rfl
        omega
  · -- the generation behind is the old one's, and so is the one ahead
    have g36 : num T 36 8 = num old 36 8 := num_congr fun i hi _ => by rw [hat, if_neg (by omega)]
    unfold OldIs at hold
    rcases hold with ⟨o, ho, rfl, hog, hlt2, hoz⟩ | rfl
    · left
      obtain ⟨co, eo⟩ := seal_bytes (at_ := 1) ho
      have gO : num (supSeal o 1) 36 8 = o.gen := by
        have := num_of (l := supSeal o 1) (a := le 1 1 ++ (le 1 0 ++ (le 2 24 ++ (le 4 1 ++ (le 8 o.gen ++ (le 4 0 ++ (le 4 o.blocks.toNat ++ (le 4 o.size.toNat ++ (le 4 o.root.toNat ++ le 4 o.keys.toNat))))))))) (w := 8) (n := o.gen) (c := co) (by rw [eo]; simp [bodyL, List.append_assoc]) hog
        simpa [le_length] using this
      have gO8 : num (supSeal o 1) 8 8 = o.gen := by
        have := num_of (l := supSeal o 1) (a := le 1 1 ++ (le 1 0 ++ (le 2 24 ++ le 4 1))) (w := 8) (n := o.gen) (c := le 4 0 ++ (bodyL o ++ co)) (by rw [eo]; simp [List.append_assoc]) hog
        simpa [le_length] using this
      apply List.ext_getElem?
      intro i
      rw [hat]
      split
      · by_cases hi : i < 8
        · -- the first eight bytes are alike
          have e8 : (supSeal young 1).take 8 = (supSeal o 1).take 8 := by
            rw [ey, eo]
            simp only [← List.append_assoc]
            rw [List.append_assoc, List.append_assoc, List.append_assoc, List.append_assoc, List.append_assoc, List.append_assoc, List.append_assoc, List.append_assoc]
            rfl
          have := congrArg (fun x => x[i]?) e8
          simpa [List.getElem?_take, hi] using this
        · have h1 : T[i]? = (supSeal o 1)[i]? := by
            refine eq_of_num (a := 8) (w := 8) (by omega) (by omega) ?_ i (by omega) (by omega)
            rw [gO8, ← hg1, hg2, g36, gO]
          rw [← h1, hat, if_pos (by assumption)]
      · rfl
    · -- bytes 0: Blocks would be 0
      exfalso
      have hbz : num T 20 4 = 0 := by
        have : num T 20 4 = num (List.replicate young.size.toNat 0) 20 4 := num_congr fun i hi _ => by rw [hat, if_neg (by omega)]
        rw [this]
        unfold num
        rw [List.drop_replicate, List.take_replicate]
        rw [show min 4 (young.size.toNat - 20) = 4 by omega]
        rfl
      have hbt : num T 20 4 = t.blocks.toNat := by
        have := num_of (l := T) (a := le 1 1 ++ (le 1 0 ++ (le 2 24 ++ (le 4 1 ++ (le 8 t.gen ++ le 4 0))))) (w := 4) (n := t.blocks.toNat) (c := le 4 t.size.toNat ++ (le 4 t.root.toNat ++ (le 4 t.keys.toNat ++ le 8 t.gen)) ++ ct) (by rw [he, et]; simp [bodyL, List.append_assoc]) (by obtain ⟨h1, _⟩ := right_iff.1 hr; omega)
        simpa [le_length] using this
      obtain ⟨h1, _⟩ := right_iff.1 hr
      omega
end Go.Proofs.YtaofhdoieffhhaaDoor.Su
