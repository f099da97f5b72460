/- merged: Node13, NodeParse, NodeLaw -/
import Derived.Test.YtlobelfnjabajaaDoorNodeM3
/- nodes: the bytes of a node (plain law) -/
namespace Go.Proofs.YtlobelfnjabajaaDoor

/-- the bytes of a text, its length ahead -/
def txtL (s : ByteArray) : List UInt8 := Fld.le 1 s.size ++ s.data.toList
/-- the bytes of an entry -/
def entL (e : Nd.Ent) : List UInt8 := txtL e.key ++ (if e.chain = 0 then Fld.le 1 0 ++ txtL e.value else Fld.le 1 1 ++ (Fld.le 4 e.chain.toNat ++ Fld.le 4 e.size.toNat))
/-- the bytes of the first k entries -/
def entsL (l : List Nd.Ent) : Nat → List UInt8
  | 0 => []
  | k + 1 => entsL l k ++ (match l[k]? with | some e => entL e | none => [])
/-- the bytes of the first k keys, each with the kid behind it -/
def keysL (ks : List ByteArray) (ki : List Int) : Nat → List UInt8
  | 0 => []
  | k + 1 => keysL ks ki k ++ (match ks[k]? with | some s => txtL s ++ Fld.le 4 (ki.getD (k + 1) 0).toNat | none => [])
/-- the bytes of a node -/
def nodeL (lf : Bool) (es : List Nd.Ent) (ks : List ByteArray) (ki : List Int) : List UInt8 :=
  if lf then Fld.le 2 es.length ++ entsL es es.length else Fld.le 2 ki.length ++ (Fld.le 4 (ki.getD 0 0).toNat ++ keysL ks ki ks.length)
theorem txtL_length (s : ByteArray) : (txtL s).length = 1 + s.size := by
  have e : s.data.toList.length = s.size := Array.length_toList
  rw [txtL, List.length_append, Fld.le_length, e]
theorem entL_length (e : Nd.Ent) : (entL e).length = (1 + e.key.size) + (if e.chain = 0 then 2 + e.value.size else 9) := by
  unfold entL
  split
  · rw [List.length_append, List.length_append, txtL_length, txtL_length, Fld.le_length]; omega
  · rw [List.length_append, List.length_append, List.length_append, txtL_length, Fld.le_length, Fld.le_length, Fld.le_length]
theorem entL_weight (e : Nd.Ent) : (entL e).length = entW e := by
  rw [entL_length, entW]
  split <;> omega
theorem entsL_weight (l : List Nd.Ent) : ∀ k, (entsL l k).length = entsW l k
  | 0 => rfl
  | k + 1 => by
    rw [entsL, entsW, List.length_append, entsL_weight l k]
    cases l[k]? with
    | none => rfl
    | some e => simp only; rw [entL_weight]
end Go.Proofs.YtlobelfnjabajaaDoor

/- nodes: how bytes are read as a node (plain law) -/
namespace Go.Proofs.YtlobelfnjabajaaDoor

/-- where a reader stands, and whether there was too little -/
structure Rd where
  pos : Nat
  bad : Bool
def numR (l : List UInt8) (x : Nat) (s : Rd) : Nat × Rd := if s.pos + x ≤ l.length then (Pg.num l s.pos x, ⟨s.pos + x, s.bad⟩) else (0, ⟨s.pos + x, true⟩)
def strOf (l : List UInt8) (p n : Nat) : ByteArray := ⟨((l.drop p).take n).toArray⟩
def textR (l : List UInt8) (s : Rd) : ByteArray × Rd :=
  if (numR l 1 s).2.bad = true ∨ l.length < (numR l 1 s).2.pos + (numR l 1 s).1 then (⟨#[]⟩, ⟨(numR l 1 s).2.pos, true⟩)
  else (strOf l (numR l 1 s).2.pos (numR l 1 s).1, ⟨(numR l 1 s).2.pos + (numR l 1 s).1, false⟩)
def kindR (l : List UInt8) (s : Rd) : Nat × Rd := numR l 1 (textR l s).2
def valR (l : List UInt8) (s : Rd) : ByteArray × Rd := textR l (kindR l s).2
def chR (l : List UInt8) (s : Rd) : Nat × Rd := numR l 4 (kindR l s).2
def szR (l : List UInt8) (s : Rd) : Nat × Rd := numR l 4 (chR l s).2
def oneR (l : List UInt8) (s : Rd) : Nd.Ent × Rd :=
  if (kindR l s).1 = 0 then (⟨(textR l s).1, (valR l s).1, 0, 0⟩, (valR l s).2)
  else (⟨(textR l s).1, ⟨#[]⟩, ((chR l s).1 : Nat), ((szR l s).1 : Nat)⟩, (szR l s).2)
def leafR (l : List UInt8) (s : Rd) : Nat → List Nd.Ent × Rd
  | 0 => ([], s)
  | k + 1 => if (leafR l s k).2.bad = true then leafR l s k else ((leafR l s k).1 ++ [(oneR l (leafR l s k).2).1], (oneR l (leafR l s k).2).2)
def kidR (l : List UInt8) (s : Rd) : Nat × Rd := numR l 4 (textR l s).2
def innerR (l : List UInt8) (c0 : Int) (s : Rd) : Nat → (List ByteArray × List Int) × Rd
  | 0 => (([], [c0]), s)
  | k + 1 => if (innerR l c0 s k).2.bad = true then innerR l c0 s k
    else (((innerR l c0 s k).1.1 ++ [(textR l (innerR l c0 s k).2).1], (innerR l c0 s k).1.2 ++ [((kidR l (innerR l c0 s k).2).1 : Int)]), (kidR l (innerR l c0 s k).2).2)
def rd0 : Rd := ⟨0, false⟩
def manyR (l : List UInt8) : Nat × Rd := numR l 2 rd0
def firstR (l : List UInt8) : Nat × Rd := numR l 4 (manyR l).2
def leafG (l : List UInt8) : List Nd.Ent × Rd := leafR l (manyR l).2 (manyR l).1
def innerG (l : List UInt8) : (List ByteArray × List Int) × Rd := innerR l ((firstR l).1 : Int) (firstR l).2 ((manyR l).1 - 1)
def leafOk (l : List UInt8) : Bool := !(leafG l).2.bad && (nodeB true (leafG l).1 [] [] && (nodeL true (leafG l).1 [] [] == l))
def innerOk (l : List UInt8) : Bool := !(innerG l).2.bad && (nodeB false [] (innerG l).1.1 (innerG l).1.2 && (nodeL false [] (innerG l).1.1 (innerG l).1.2 == l))

/-! ### a reader's steps -/
theorem numR_lt (l : List UInt8) (x : Nat) (s : Rd) : (numR l x s).1 < 256 ^ x := by
  unfold numR
  split
  · exact Pg.num_lt l s.pos x
  · exact Nat.pos_of_ne_zero (by simp)
theorem numR_pos (l : List UInt8) (x : Nat) (s : Rd) : (numR l x s).2.pos = s.pos + x := by unfold numR; split <;> rfl
theorem numR_bad {l : List UInt8} {x : Nat} {s : Rd} (h : s.bad = true) : (numR l x s).2.bad = true := by unfold numR; split <;> simp [h]
theorem numR_good {l : List UInt8} {x : Nat} {s : Rd} (h : (numR l x s).2.bad = false) : s.bad = false ∧ s.pos + x ≤ l.length ∧ numR l x s = (Pg.num l s.pos x, ⟨s.pos + x, false⟩) := by
  unfold numR at h ⊢
  split
  · rename_i h1
    rw [if_pos h1] at h
    exact ⟨h, h1, by simp only at h; rw [h]⟩
  · rename_i h1
    rw [if_neg h1] at h
    cases h
theorem textR_pos (l : List UInt8) (s : Rd) : (textR l s).2.pos ≤ s.pos + 256 := by
  have h := numR_lt l 1 s
  have h2 := numR_pos l 1 s
  unfold textR
  split
  · simp only; omega
  · simp only; omega
theorem textR_bad {l : List UInt8} {s : Rd} (h : s.bad = true) : (textR l s).2.bad = true := by
  unfold textR
  rw [if_pos (.inl (numR_bad h))]
theorem textR_end {l : List UInt8} {s : Rd} (h : (textR l s).2.bad = false) : (textR l s).2.pos ≤ l.length ∧ s.bad = false := by
  unfold textR at h ⊢
  split at h
  · cases h
  · rename_i hc
    rw [if_neg hc]
    have h1 : ¬ (numR l 1 s).2.bad = true := fun e => hc (.inl e)
    refine ⟨by simp only; omega, (numR_good (l := l) (x := 1) (by simpa using h1)).1⟩
theorem oneR_pos (l : List UInt8) (s : Rd) : (oneR l s).2.pos ≤ s.pos + 600 := by
  have h1 := textR_pos l s
  have h2 : (kindR l s).2.pos = _ := numR_pos l 1 (textR l s).2
  have h3 : (valR l s).2.pos ≤ _ := textR_pos l (kindR l s).2
  have h4 : (chR l s).2.pos = _ := numR_pos l 4 (kindR l s).2
  have h5 : (szR l s).2.pos = _ := numR_pos l 4 (chR l s).2
  unfold oneR
  split
  · simp only; omega
  · simp only; omega
theorem oneR_bad {l : List UInt8} {s : Rd} (h : s.bad = true) : (oneR l s).2.bad = true := by
  have h2 : (kindR l s).2.bad = true := numR_bad (textR_bad h)
  unfold oneR
  split
  · exact textR_bad h2
  · exact numR_bad (numR_bad h2)
theorem oneR_end {l : List UInt8} {s : Rd} (h : (oneR l s).2.bad = false) : (oneR l s).2.pos ≤ l.length := by
  unfold oneR at h ⊢
  split
  · rename_i hc
    rw [if_pos hc] at h
    exact (textR_end h).1
  · rename_i hc
    rw [if_neg hc] at h
    obtain ⟨_, h1, h2⟩ := numR_good h
    show (szR l s).2.pos ≤ _
    rw [szR, numR_pos]
    exact h1
theorem kidR_pos (l : List UInt8) (s : Rd) : (kidR l s).2.pos ≤ s.pos + 600 := by
  have h1 := textR_pos l s
  have h2 : (kidR l s).2.pos = _ := numR_pos l 4 (textR l s).2
  omega
theorem kidR_end {l : List UInt8} {s : Rd} (h : (kidR l s).2.bad = false) : (kidR l s).2.pos ≤ l.length := by
  obtain ⟨_, h1, h2⟩ := numR_good h
  rw [kidR, numR_pos]
  exact h1
theorem leafR_stays {l : List UInt8} {s : Rd} {k : Nat} (h : (leafR l s k).2.bad = true) : ∀ j, k ≤ j → leafR l s j = leafR l s k := by
  intro j hj
  induction j with
  | zero => obtain rfl : k = 0 := by omega
            rfl
  | succ j ih =>
    by_cases hkj : k = j + 1
    · subst hkj; rfl
    · rw [leafR, ih (by omega), if_pos h]
theorem innerR_stays {l : List UInt8} {c0 : Int} {s : Rd} {k : Nat} (h : (innerR l c0 s k).2.bad = true) : ∀ j, k ≤ j → innerR l c0 s j = innerR l c0 s k := by
  intro j hj
  induction j with
  | zero => obtain rfl : k = 0 := by omega
            rfl
  | succ j ih =>
    by_cases hkj : k = j + 1
    · subst hkj; rfl
    · rw [innerR, ih (by omega), if_pos h]
theorem leafR_len (l : List UInt8) (s : Rd) : ∀ k, (leafR l s k).1.length ≤ k
  | 0 => Nat.le_refl _
  | k + 1 => by
    have ih := leafR_len l s k
    rw [leafR]
    split
    · omega
    · simp; exact ih
theorem innerR_len (l : List UInt8) (c0 : Int) (s : Rd) : ∀ k, (innerR l c0 s k).1.1.length ≤ k ∧ (innerR l c0 s k).1.2.length ≤ k + 1
  | 0 => ⟨Nat.le_refl _, Nat.le_refl _⟩
  | k + 1 => by
    have ih := innerR_len l c0 s k
    rw [innerR]
    split
    · omega
    · simp; omega

/-! ### what stands in bytes is read -/
theorem numR_of {l a c : List UInt8} {x n : Nat} (h : l = a ++ (Fld.le x n ++ c)) (hn : n < 256 ^ x) (b : Bool) : numR l x ⟨a.length, b⟩ = (n, ⟨a.length + x, b⟩) := by
  unfold numR
  rw [if_pos (by rw [h]; simp [Fld.le_length])]
  simp only [Pg.num_of h hn]
theorem strOf_of {l a c : List UInt8} {s : ByteArray} (h : l = a ++ (s.data.toList ++ c)) : strOf l a.length s.size = s := by
  unfold strOf
  have e : s.data.toList.length = s.size := Array.length_toList
  rw [h, List.drop_left, ← e, List.take_left]
theorem textR_of {l a c : List UInt8} {s : ByteArray} (h : l = a ++ (txtL s ++ c)) (hs : s.size < 256) : textR l ⟨a.length, false⟩ = (s, ⟨a.length + (1 + s.size), false⟩) := by
  have e : s.data.toList.length = s.size := Array.length_toList
  have h1 : numR l 1 ⟨a.length, false⟩ = (s.size, ⟨a.length + 1, false⟩) := numR_of (c := s.data.toList ++ c) (by rw [h, txtL, List.append_assoc]) (by omega) false
  have hl : (a ++ Fld.le 1 s.size).length = a.length + 1 := by rw [List.length_append, Fld.le_length]
  have h2 : strOf l (a.length + 1) s.size = s := by
    rw [← hl]
    exact strOf_of (c := c) (by rw [h, txtL]; simp)
  unfold textR
  rw [h1]
  simp only
  rw [if_neg (by rw [h]; simp [txtL, Fld.le_length, e]; omega), h2, Nat.add_assoc]
theorem ent_eq {e : Nd.Ent} (h : Nd.entB e = true) (hc : e.chain = 0) : e = ⟨e.key, e.value, 0, 0⟩ ∧ e.key.size ≤ 32 ∧ e.value.size ≤ 24 := by
  obtain ⟨k, v, ch, sz⟩ := e
  simp only at hc
  subst hc
  unfold Nd.entB Nd.keyB at h
  simp at h
  obtain ⟨h1, h2, h3⟩ := h
  subst h2
  exact ⟨rfl, h1.2, h3⟩
theorem bytes_none (s : ByteArray) (h : s.size = 0) : s = ⟨#[]⟩ := by
  obtain ⟨d⟩ := s
  have : d.size = 0 := h
  rw [Array.eq_empty_of_size_eq_zero this]
theorem ent_eq2 {e : Nd.Ent} (h : Nd.entB e = true) (hc : e.chain ≠ 0) : e = ⟨e.key, ⟨#[]⟩, (e.chain.toNat : Int), (e.size.toNat : Int)⟩ ∧ e.key.size ≤ 32 ∧ e.chain.toNat < 256 ∧ e.size.toNat ≤ 4096 ∧ e.value.size = 0 := by
  obtain ⟨k, v, ch, sz⟩ := e
  simp only at hc
  unfold Nd.entB Nd.keyB Nd.kidB at h
  simp only [if_neg hc] at h
  simp at h
  obtain ⟨⟨_, h1⟩, ⟨h2, h3⟩, h4, h5, h6⟩ := h
  subst h4
  refine ⟨?_, h1, by simp only; omega, by simp only; omega, rfl⟩
  rw [Nd.Ent.mk.injEq]
  exact ⟨rfl, rfl, by simp only; omega, by simp only; omega⟩
theorem oneR_of {l a c : List UInt8} {e : Nd.Ent} (h : l = a ++ (entL e ++ c)) (he : Nd.entB e = true) : oneR l ⟨a.length, false⟩ = (e, ⟨a.length + (entL e).length, false⟩) := by
  by_cases hc : e.chain = 0
  · obtain ⟨e1, hk, hv⟩ := ent_eq he hc
    have hE : entL e = txtL e.key ++ (Fld.le 1 0 ++ txtL e.value) := by unfold entL; rw [if_pos hc]
    have h1 : textR l ⟨a.length, false⟩ = (e.key, ⟨a.length + (1 + e.key.size), false⟩) := textR_of (c := Fld.le 1 0 ++ txtL e.value ++ c) (by rw [h, hE]; simp) (by omega)
    have l1 : (a ++ txtL e.key).length = a.length + (1 + e.key.size) := by rw [List.length_append, txtL_length]
    have h2 : kindR l ⟨a.length, false⟩ = (0, ⟨a.length + (1 + e.key.size) + 1, false⟩) := by
      unfold kindR
      rw [h1, ← l1]
      exact numR_of (c := txtL e.value ++ c) (by rw [h, hE]; simp) (by decide) false
    have l2 : (a ++ txtL e.key ++ Fld.le 1 0).length = a.length + (1 + e.key.size) + 1 := by rw [List.length_append, l1, Fld.le_length]
    have h3 : valR l ⟨a.length, false⟩ = (e.value, ⟨a.length + (1 + e.key.size) + 1 + (1 + e.value.size), false⟩) := by
      unfold valR
      rw [h2, ← l2]
      exact textR_of (c := c) (by rw [h, hE]; simp) (by omega)
    unfold oneR
    rw [h2, h1, h3]
    simp only [if_true]
    rw [← e1, hE, List.length_append, List.length_append, txtL_length, txtL_length, Fld.le_length]
    congr 2
    omega
  · obtain ⟨e1, hk, hv, hz, _⟩ := ent_eq2 he hc
    have hE : entL e = txtL e.key ++ (Fld.le 1 1 ++ (Fld.le 4 e.chain.toNat ++ Fld.le 4 e.size.toNat)) := by unfold entL; rw [if_neg hc]
    have h1 : textR l ⟨a.length, false⟩ = (e.key, ⟨a.length + (1 + e.key.size), false⟩) := textR_of (c := Fld.le 1 1 ++ (Fld.le 4 e.chain.toNat ++ Fld.le 4 e.size.toNat) ++ c) (by rw [h, hE]; simp) (by omega)
    have l1 : (a ++ txtL e.key).length = a.length + (1 + e.key.size) := by rw [List.length_append, txtL_length]
    have h2 : kindR l ⟨a.length, false⟩ = (1, ⟨a.length + (1 + e.key.size) + 1, false⟩) := by
      unfold kindR
      rw [h1, ← l1]
      exact numR_of (c := Fld.le 4 e.chain.toNat ++ Fld.le 4 e.size.toNat ++ c) (by rw [h, hE]; simp) (by decide) false
    have l2 : (a ++ txtL e.key ++ Fld.le 1 1).length = a.length + (1 + e.key.size) + 1 := by rw [List.length_append, l1, Fld.le_length]
    have h3 : chR l ⟨a.length, false⟩ = (e.chain.toNat, ⟨a.length + (1 + e.key.size) + 1 + 4, false⟩) := by
      unfold chR
      rw [h2, ← l2]
      exact numR_of (c := Fld.le 4 e.size.toNat ++ c) (by rw [h, hE]; simp) (show e.chain.toNat < 4294967296 by omega) false
    have l3 : (a ++ txtL e.key ++ Fld.le 1 1 ++ Fld.le 4 e.chain.toNat).length = a.length + (1 + e.key.size) + 1 + 4 := by rw [List.length_append, l2, Fld.le_length]
    have h4 : szR l ⟨a.length, false⟩ = (e.size.toNat, ⟨a.length + (1 + e.key.size) + 1 + 4 + 4, false⟩) := by
      unfold szR
      rw [h3, ← l3]
      exact numR_of (c := c) (by rw [h, hE]; simp) (show e.size.toNat < 4294967296 by omega) false
    unfold oneR
    rw [h2, h1, h3, h4]
    simp only [if_neg (show ¬ (1 : Nat) = 0 by decide)]
    rw [← e1, hE, List.length_append, List.length_append, List.length_append, txtL_length, Fld.le_length, Fld.le_length, Fld.le_length]
    congr 2
theorem entsL_split (es : List Nd.Ent) {k : Nat} : ∀ {n : Nat}, k ≤ n → ∃ c, entsL es n = entsL es k ++ c
  | 0, h => by obtain rfl : k = 0 := by omega
               exact ⟨[], by simp⟩
  | n + 1, h => by
    by_cases hkn : k = n + 1
    · subst hkn; exact ⟨[], by simp⟩
    · obtain ⟨c, hc⟩ := entsL_split es (show k ≤ n by omega)
      exact ⟨_, by rw [entsL, hc, List.append_assoc]⟩
theorem entsK_at {es : List Nd.Ent} : ∀ {n : Nat}, entsK es n = true → ∀ {k : Nat} {e : Nd.Ent}, k < n → es[k]? = some e → Nd.entB e = true
  | 0, _, k, e, hk, _ => by omega
  | n + 1, h, k, e, hk, he => by
    rw [entsK, Bool.and_eq_true] at h
    by_cases hkn : k = n
    · subst hkn
      have := h.2
      rw [he] at this
      exact this
    · exact entsK_at h.1 (by omega) he
theorem take_snoc {α : Type} {l : List α} {k : Nat} {x : α} (h : l[k]? = some x) : l.take (k + 1) = l.take k ++ [x] := by
  rw [List.take_add_one, h]; rfl
theorem leafR_of {es : List Nd.Ent} (hes : entsK es es.length = true) {l : List UInt8} (hl : l = Fld.le 2 es.length ++ entsL es es.length) : ∀ k, k ≤ es.length → leafR l ⟨2, false⟩ k = (es.take k, ⟨2 + (entsL es k).length, false⟩)
  | 0, _ => by simp [leafR, entsL]
  | k + 1, hk => by
    have ih := leafR_of hes hl k (by omega)
    obtain ⟨e, he⟩ := getElem?_some_of_lt (show k < es.length by omega)
    obtain ⟨c, hc⟩ := entsL_split es hk
    have hE : entsL es (k + 1) = entsL es k ++ entL e := by rw [entsL, he]
    have hL : (Fld.le 2 es.length ++ entsL es k).length = 2 + (entsL es k).length := by rw [List.length_append, Fld.le_length]
    have h1 : oneR l ⟨2 + (entsL es k).length, false⟩ = (e, ⟨2 + (entsL es k).length + (entL e).length, false⟩) := by
      rw [← hL]
      exact oneR_of (c := c) (by rw [hl, hc, hE]; simp) (entsK_at hes (by omega) he)
    rw [leafR, ih]
    simp only [Bool.false_eq_true, if_false]
    rw [h1, take_snoc he, hE, List.length_append]
    simp only
    congr 2
    omega
theorem keysL_split (ks : List ByteArray) (ki : List Int) {k : Nat} : ∀ {n : Nat}, k ≤ n → ∃ c, keysL ks ki n = keysL ks ki k ++ c
  | 0, h => by obtain rfl : k = 0 := by omega
               exact ⟨[], by simp⟩
  | n + 1, h => by
    by_cases hkn : k = n + 1
    · subst hkn; exact ⟨[], by simp⟩
    · obtain ⟨c, hc⟩ := keysL_split ks ki (show k ≤ n by omega)
      exact ⟨_, by rw [keysL, hc, List.append_assoc]⟩
theorem keysK_at {ks : List ByteArray} : ∀ {n : Nat}, keysK ks n = true → ∀ {k : Nat} {e : ByteArray}, k < n → ks[k]? = some e → Nd.keyB e = true
  | 0, _, k, e, hk, _ => by omega
  | n + 1, h, k, e, hk, he => by
    rw [keysK, Bool.and_eq_true] at h
    by_cases hkn : k = n
    · subst hkn
      have := h.2
      rw [he] at this
      exact this
    · exact keysK_at h.1 (by omega) he
theorem kidsK_at {ki : List Int} : ∀ {n : Nat}, kidsK ki n = true → ∀ {k : Nat} {e : Int}, k < n → ki[k]? = some e → Nd.kidB e = true ∧ ¬ e ∈ ki.take k
  | 0, _, k, e, hk, _ => by omega
  | n + 1, h, k, e, hk, he => by
    rw [kidsK, Bool.and_eq_true] at h
    by_cases hkn : k = n
    · subst hkn
      have := h.2
      rw [he] at this
      simpa using this
    · exact kidsK_at h.1 (by omega) he
theorem kidB_bd {n : Int} (h : Nd.kidB n = true) : 2 ≤ n ∧ n ≤ 255 := by unfold Nd.kidB at h; simpa using h
theorem keyB_bd {s : ByteArray} (h : Nd.keyB s = true) : 1 ≤ s.size ∧ s.size ≤ 32 := by unfold Nd.keyB at h; simpa using h
theorem innerR_of {ks : List ByteArray} {ki : List Int} (hks : keysK ks ks.length = true) (hki : kidsK ki ki.length = true) (hlen : ki.length = ks.length + 1) {l : List UInt8} (hl : l = Fld.le 2 ki.length ++ (Fld.le 4 (ki.getD 0 0).toNat ++ keysL ks ki ks.length)) :
    ∀ k, k ≤ ks.length → innerR l (((ki.getD 0 0).toNat : Nat) : Int) ⟨6, false⟩ k = ((ks.take k, ki.take (k + 1)), ⟨6 + (keysL ks ki k).length, false⟩)
  | 0, _ => by
    obtain ⟨x, hx⟩ := getElem?_some_of_lt (show 0 < ki.length by omega)
    have hb := kidB_bd (kidsK_at hki (by omega) hx).1
    have hg : ki.getD 0 0 = x := by simp [hx]
    rw [take_snoc hx, innerR, keysL, hg]
    simp
    omega
  | k + 1, hk => by
    have ih := innerR_of hks hki hlen hl k (by omega)
    obtain ⟨s, hs⟩ := getElem?_some_of_lt (show k < ks.length by omega)
    obtain ⟨x, hx⟩ := getElem?_some_of_lt (show k + 1 < ki.length by omega)
    have hb := kidB_bd (kidsK_at hki (by omega) hx).1
    have hg : ki.getD (k + 1) 0 = x := by simp [hx]
    have hkb := keyB_bd (keysK_at hks (by omega) hs)
    obtain ⟨c, hc⟩ := keysL_split ks ki hk
    have hE : keysL ks ki (k + 1) = keysL ks ki k ++ (txtL s ++ Fld.le 4 x.toNat) := by rw [keysL, hs, hg]
    have hL : (Fld.le 2 ki.length ++ Fld.le 4 (ki.getD 0 0).toNat ++ keysL ks ki k).length = 6 + (keysL ks ki k).length := by rw [List.length_append, List.length_append, Fld.le_length, Fld.le_length]
    have h1 : textR l ⟨6 + (keysL ks ki k).length, false⟩ = (s, ⟨6 + (keysL ks ki k).length + (1 + s.size), false⟩) := by
      rw [← hL]
      exact textR_of (c := Fld.le 4 x.toNat ++ c) (by rw [hl, hc, hE]; simp) (by omega)
    have hL2 : (Fld.le 2 ki.length ++ Fld.le 4 (ki.getD 0 0).toNat ++ keysL ks ki k ++ txtL s).length = 6 + (keysL ks ki k).length + (1 + s.size) := by rw [List.length_append, hL, txtL_length]
    have h2 : kidR l ⟨6 + (keysL ks ki k).length, false⟩ = (x.toNat, ⟨6 + (keysL ks ki k).length + (1 + s.size) + 4, false⟩) := by
      unfold kidR
      rw [h1, ← hL2]
      exact numR_of (c := c) (by rw [hl, hc, hE]; simp) (show x.toNat < 4294967296 by omega) false
    rw [innerR, ih]
    simp only [Bool.false_eq_true, if_false]
    rw [h1, h2, take_snoc hs, take_snoc hx, hE]
    simp only [List.length_append, txtL_length, Fld.le_length]
    rw [show ((x.toNat : Nat) : Int) = x by omega]
    congr 2
    omega
theorem take_all {α : Type} (l : List α) : l.take l.length = l := List.take_length
/-- a right leaf's bytes are read as it -/
theorem leafG_of {es : List Nd.Ent} {ks : List ByteArray} {ki : List Int} (h : nodeB true es ks ki = true) : ks = [] ∧ ki = [] ∧ (leafG (nodeL true es ks ki)).1 = es ∧ (leafG (nodeL true es ks ki)).2.bad = false := by
  unfold nodeB leafB at h
  simp at h
  obtain ⟨⟨h1, h2, h3, h4⟩, h5⟩ := h
  have hl : nodeL true es ks ki = Fld.le 2 es.length ++ entsL es es.length := by unfold nodeL; rfl
  have hm : manyR (nodeL true es ks ki) = (es.length, ⟨2, false⟩) := by
    have := numR_of (l := nodeL true es ks ki) (a := []) (c := entsL es es.length) (x := 2) (n := es.length) (by rw [hl]; rfl) (show es.length < 65536 by omega) false
    simpa [manyR, rd0] using this
  refine ⟨h2, h3, ?_⟩
  unfold leafG
  rw [hm]
  simp only
  rw [leafR_of h1 hl es.length (Nat.le_refl _)]
  exact ⟨take_all es, rfl⟩
theorem innerG_of {es : List Nd.Ent} {ks : List ByteArray} {ki : List Int} (h : nodeB false es ks ki = true) : es = [] ∧ (innerG (nodeL false es ks ki)).1 = (ks, ki) ∧ (innerG (nodeL false es ks ki)).2.bad = false := by
  unfold nodeB innerB at h
  simp at h
  obtain ⟨⟨⟨h1, h2, h3, h4⟩, h5, h6, h7⟩, h8⟩ := h
  have hl : nodeL false es ks ki = Fld.le 2 ki.length ++ (Fld.le 4 (ki.getD 0 0).toNat ++ keysL ks ki ks.length) := by unfold nodeL; rfl
  obtain ⟨x, hx⟩ := getElem?_some_of_lt (show 0 < ki.length by omega)
  have hb := kidB_bd (kidsK_at h5 (by omega) hx).1
  have hg : ki.getD 0 0 = x := by simp [hx]
  have hm : manyR (nodeL false es ks ki) = (ki.length, ⟨2, false⟩) := by
    have := numR_of (l := nodeL false es ks ki) (a := []) (c := Fld.le 4 (ki.getD 0 0).toNat ++ keysL ks ki ks.length) (x := 2) (n := ki.length) (by rw [hl]; rfl) (show ki.length < 65536 by omega) false
    simpa [manyR, rd0] using this
  have hf : firstR (nodeL false es ks ki) = ((ki.getD 0 0).toNat, ⟨6, false⟩) := by
    unfold firstR
    rw [hm]
    have := numR_of (l := nodeL false es ks ki) (a := Fld.le 2 ki.length) (c := keysL ks ki ks.length) (x := 4) (n := (ki.getD 0 0).toNat) hl (by rw [hg]; show x.toNat < 4294967296; omega) false
    rw [Fld.le_length] at this
    simpa using this
  refine ⟨h1, ?_⟩
  unfold innerG
  rw [hf, hm]
  simp only
  rw [show ki.length - 1 = ks.length by omega, innerR_of h6 h5 h3 hl ks.length (Nat.le_refl _)]
  simp only
  rw [take_all, show ks.length + 1 = ki.length by omega, take_all]
  exact ⟨rfl, trivial⟩
end Go.Proofs.YtlobelfnjabajaaDoor

/- nodes: how many kids there may be; where a key belongs; which nodes are the same (plain law) -/
namespace Go.Proofs.YtlobelfnjabajaaDoor

theorem nodup_bd : ∀ (n : Nat) (l : List Int), l.Nodup → (∀ x ∈ l, 2 ≤ x ∧ x < 2 + (n : Int)) → l.length ≤ n
  | 0, l, _, h => by
    cases l with
    | nil => simp
    | cons x l => have := h x (by simp); omega
  | n + 1, l, hd, h => by
    by_cases hm : (2 + (n : Int)) ∈ l
    · have h1 := nodup_bd n (l.erase (2 + (n : Int))) (hd.erase _) (fun x hx => by
        have h2 := (hd.mem_erase_iff).1 hx
        have h3 := h x h2.2
        have h4 := h2.1
        omega)
      rw [List.length_erase_of_mem hm] at h1
      omega
    · have h1 := nodup_bd n l hd (fun x hx => by
        have h3 := h x hx
        have h4 : x ≠ 2 + (n : Int) := fun e => hm (e ▸ hx)
        omega)
      omega
theorem kidsK_nodup {l : List Int} : ∀ k, k ≤ l.length → kidsK l k = true → (l.take k).Nodup ∧ ∀ x ∈ l.take k, 2 ≤ x ∧ x < 256
  | 0, _, _ => ⟨by simp, by simp⟩
  | k + 1, hk, h => by
    obtain ⟨x, hx⟩ := getElem?_some_of_lt (show k < l.length by omega)
    rw [kidsK, Bool.and_eq_true, hx] at h
    obtain ⟨h1, h2⟩ := h
    obtain ⟨h3, h4⟩ := kidsK_nodup k (by omega) h1
    simp at h2
    have hb := kidB_bd h2.1
    rw [take_snoc hx]
    refine ⟨List.nodup_append.2 ⟨h3, by simp, fun a ha b hb e => h2.2 (by simp at hb; rw [← hb, ← e]; exact ha)⟩, fun y hy => ?_⟩
    rcases List.mem_append.1 hy with hy | hy
    · exact h4 y hy
    · simp at hy; omega
theorem kidsK_few {l : List Int} {k : Nat} (hk : k ≤ l.length) (h : kidsK l k = true) : k ≤ 254 := by
  obtain ⟨h1, h2⟩ := kidsK_nodup k hk h
  have := nodup_bd 254 (l.take k) h1 (fun x hx => by have := h2 x hx; omega)
  rw [List.length_take] at this
  omega

/-! ### where a key belongs -/
/-- none of the first k is one -/
def noneK {α : Type} (p : α → Bool) (l : List α) : Nat → Bool
  | 0 => true
  | k + 1 => noneK p l k && (match l[k]? with | some x => !p x | none => true)
theorem noneK_at {α : Type} {p : α → Bool} {l : List α} : ∀ {n : Nat}, noneK p l n = true → ∀ {k : Nat} {x : α}, k < n → l[k]? = some x → p x = false
  | 0, _, k, x, hk, _ => by omega
  | n + 1, h, k, x, hk, hx => by
    rw [noneK, Bool.and_eq_true] at h
    by_cases hkn : k = n
    · subst hkn
      have := h.2
      rw [hx] at this
      simpa using this
    · exact noneK_at h.1 (by omega) hx
theorem find_at {α : Type} {p : α → Bool} {l : List α} {k : Nat} {x : α} (h : noneK p l k = true) (hx : l[k]? = some x) (hp : p x = true) : l.findIdx p = k := by
  obtain ⟨hlt, hxk⟩ := List.getElem?_eq_some_iff.1 hx
  rw [List.findIdx_eq hlt]
  refine ⟨by rw [hxk]; exact hp, fun j hj => noneK_at h hj (List.getElem?_eq_getElem (by omega))⟩
theorem find_none {α : Type} {p : α → Bool} {l : List α} (h : noneK p l l.length = true) : l.findIdx p = l.length := by
  rw [List.findIdx_eq_length]
  intro x hx
  obtain ⟨k, hk, rfl⟩ := List.mem_iff_getElem.1 hx
  exact noneK_at h hk (List.getElem?_eq_getElem hk)
def leafAt (es : List Nd.Ent) (key : ByteArray) : Nat := es.findIdx fun e => !Nd.less e.key key
def leafIs (es : List Nd.Ent) (key : ByteArray) : Bool := match es[leafAt es key]? with | some e => e.key.toList == key.toList | none => false
def keyAt (ks : List ByteArray) (key : ByteArray) : Nat := ks.findIdx fun k => Nd.less key k
theorem leafAt_le (es : List Nd.Ent) (key : ByteArray) : leafAt es key ≤ es.length := List.findIdx_le_length
theorem keyAt_le (ks : List ByteArray) (key : ByteArray) : keyAt ks key ≤ ks.length := List.findIdx_le_length

/-! ### which nodes are the same -/
/-- are the first k the same? -/
def sameK {α : Type} (eq : α → α → Bool) (l m : List α) : Nat → Bool
  | 0 => true
  | k + 1 => sameK eq l m k && (match l[k]?, m[k]? with | some x, some y => eq x y | _, _ => true)
def sameL {α : Type} (eq : α → α → Bool) (l m : List α) : Bool := decide (l.length = m.length) && sameK eq l m l.length
theorem sameK_step {α : Type} {eq : α → α → Bool} {l m : List α} {k : Nat} {x y : α} (hx : l[k]? = some x) (hy : m[k]? = some y) : sameK eq l m (k + 1) = (sameK eq l m k && eq x y) := by rw [sameK, hx, hy]
theorem sameK_false {α : Type} {eq : α → α → Bool} {l m : List α} {k : Nat} (h : sameK eq l m k = false) : ∀ j, k ≤ j → sameK eq l m j = false := by
  intro j hj
  induction j with
  | zero => obtain rfl : k = 0 := by omega
            exact h
  | succ j ih =>
    by_cases hkj : k = j + 1
    · subst hkj; exact h
    · rw [sameK, ih (by omega)]; rfl
theorem sameK_self {α : Type} {eq : α → α → Bool} (he : ∀ x, eq x x = true) (l : List α) : ∀ k, sameK eq l l k = true
  | 0 => rfl
  | k + 1 => by
    rw [sameK, sameK_self he l k]
    cases h : l[k]? with
    | none => rfl
    | some x => simp [he]
theorem sameL_self {α : Type} {eq : α → α → Bool} (he : ∀ x, eq x x = true) (l : List α) : sameL eq l l = true := by
  unfold sameL
  rw [decide_eq_true rfl, sameK_self he]; rfl
def txtEq (a b : ByteArray) : Bool := a.toList == b.toList
def entEq (a b : Nd.Ent) : Bool := txtEq a.key b.key && (txtEq a.value b.value && (a.chain == b.chain && a.size == b.size))
def intEq (a b : Int) : Bool := a == b
theorem txtEq_self (a : ByteArray) : txtEq a a = true := by simp [txtEq]
theorem intEq_self (a : Int) : intEq a a = true := by simp [intEq]
theorem entEq_self (a : Nd.Ent) : entEq a a = true := by simp [entEq, txtEq_self]
/-- are two nodes the same? -/
def nodeEq (l1 : Bool) (es1 : List Nd.Ent) (ks1 : List ByteArray) (ki1 : List Int) (l2 : Bool) (es2 : List Nd.Ent) (ks2 : List ByteArray) (ki2 : List Int) : Bool :=
  (l1 == l2) && (sameL entEq es1 es2 && (sameL txtEq ks1 ks2 && sameL intEq ki1 ki2))
theorem nodeEq_self (l1 : Bool) (es1 : List Nd.Ent) (ks1 : List ByteArray) (ki1 : List Int) : nodeEq l1 es1 ks1 ki1 l1 es1 ks1 ki1 = true := by
  unfold nodeEq
  rw [sameL_self entEq_self, sameL_self txtEq_self, sameL_self intEq_self]; simp

/-! ### how many bytes an inner node has -/
def keysW (l : List ByteArray) : Nat → Nat
  | 0 => 0
  | k + 1 => keysW l k + (match l[k]? with | some s => 5 + s.size | none => 0)
theorem keysL_weight (l : List ByteArray) (ki : List Int) : ∀ k, (keysL l ki k).length = keysW l k
  | 0 => rfl
  | k + 1 => by
    rw [keysL, keysW, List.length_append, keysL_weight l ki k]
    cases l[k]? with
    | none => rfl
    | some e => simp only; rw [List.length_append, txtL_length, Fld.le_length]; omega
theorem keysW_le {l : List ByteArray} (h : ∀ (k : Nat) (e : ByteArray), l[k]? = some e → e.size ≤ 32) : ∀ k, keysW l k ≤ 100 * k
  | 0 => Nat.le_refl _
  | k + 1 => by
    rw [keysW]
    have ih := keysW_le h k
    cases hk : l[k]? with
    | none => simp only; omega
    | some e => have := h k e hk; simp only; omega
theorem nodeL_leaf (es : List Nd.Ent) (ks : List ByteArray) (ki : List Int) : (nodeL true es ks ki).length = 2 + entsW es es.length := by
  unfold nodeL
  rw [if_pos rfl, List.length_append, Fld.le_length, entsL_weight]
theorem nodeL_inner (es : List Nd.Ent) (ks : List ByteArray) (ki : List Int) : (nodeL false es ks ki).length = 6 + keysW ks ks.length := by
  unfold nodeL
  rw [if_neg (by decide), List.length_append, List.length_append, Fld.le_length, Fld.le_length, keysL_weight]; omega
/-- what is right of a right leaf's entries -/
theorem ents_few {es : List Nd.Ent} (h : entsK es es.length = true) : ∀ (k : Nat) (e : Nd.Ent), es[k]? = some e → e.key.size ≤ 32 ∧ e.value.size ≤ 24 := by
  intro k e he
  have h1 := entsK_at h (List.getElem?_eq_some_iff.1 he).1 he
  by_cases hc : e.chain = 0
  · exact (ent_eq h1 hc).2
  · obtain ⟨_, h2, _, _, h3⟩ := ent_eq2 h1 hc
    exact ⟨h2, by omega⟩
end Go.Proofs.YtlobelfnjabajaaDoor
