/- slices of any elements, each of so many cells: what one reads as; those that the call itself owns; append, make -/
import Derived.Test.YtflbioiildndoaaDoorAppend
namespace Go.Proofs.YtflbioiildndoaaDoor
open Go.RowKit

/-- how the elements of a slice lie in memory -/
structure Elem (α : Type) where
  sl : TypeId
  el : TypeId
  size : Nat
  bytes : Nat
  zero : Value
  enc : α → List Value
structure Elem.Ok {α : Type} (E : Elem α) : Prop where
  len : ∀ x, (E.enc x).length = E.size
  one : ∀ x, ∀ u ∈ E.enc x, u.oneCell' = true
  und : Tryd.prog.underlying E.sl = some (.slice E.el)
  info : (Tryd.prog.info? E.el).map (fun i => (i.zero, i.size, i.bytes)) = some (some E.zero, E.size, E.bytes)
  zs : E.zero.cells.size = E.size

section
variable {α : Type} {E : Elem α}
def Elem.all (E : Elem α) (l : List α) : List Value := l.flatMap E.enc
theorem Elem.all_append (E : Elem α) (l m : List α) : E.all (l ++ m) = E.all l ++ E.all m := by simp [Elem.all]
theorem Elem.all_length (hE : E.Ok) (l : List α) : (E.all l).length = l.length * E.size := by
  induction l with
  | nil => simp [Elem.all]
  | cons x l ih =>
    simp only [Elem.all, List.flatMap_cons, List.length_append, List.length_cons, hE.len, Nat.add_mul, Nat.one_mul] at ih ⊢
    rw [ih]; omega
theorem Elem.all_at (hE : E.Ok) {l : List α} {k j : Nat} {x : α} {u : Value} (h : l[k]? = some x) (hu : (E.enc x)[j]? = some u) : (E.all l)[k * E.size + j]? = some u := by
  have hj : j < E.size := by rw [← hE.len x]; exact (List.getElem?_eq_some_iff.1 hu).1
  induction l generalizing k with
  | nil => simp at h
  | cons y l ih =>
    simp only [Elem.all, List.flatMap_cons]
    cases k with
    | zero =>
      simp at h; subst h
      rw [Nat.zero_mul, Nat.zero_add, List.getElem?_append_left (by rw [hE.len]; exact hj)]
      exact hu
    | succ k =>
      rw [List.getElem?_append_right (by rw [hE.len, Nat.add_mul]; omega), hE.len, show (k + 1) * E.size + j - E.size = k * E.size + j by rw [Nat.add_mul]; omega]
      exact ih (by simpa using h)
theorem Elem.all_set (hE : E.Ok) {l : List α} {k j : Nat} {x y : α} {u : Value} (h : l[k]? = some x) (hj : j < E.size) (hy : E.enc y = (E.enc x).set j u) : (E.all l).set (k * E.size + j) u = E.all (l.set k y) := by
  induction l generalizing k with
  | nil => simp at h
  | cons z l ih =>
    cases k with
    | zero =>
      simp at h; subst h
      simp only [Elem.all, List.flatMap_cons, List.set_cons_zero]
      rw [Nat.zero_mul, Nat.zero_add, List.set_append_left _ _ (by rw [hE.len]; exact hj), ← hy]
    | succ k =>
      simp only [Elem.all, List.flatMap_cons, List.set_cons_succ]
      rw [List.set_append_right _ _ (by rw [hE.len, Nat.add_mul]; omega), hE.len, show (k + 1) * E.size + j - E.size = k * E.size + j by rw [Nat.add_mul]; omega]
      congr 1
      exact ih (by simpa using h)
theorem Elem.all_one (hE : E.Ok) {l : List α} {u : Value} (h : u ∈ E.all l) : u.oneCell' = true := by
  obtain ⟨x, _, hu⟩ := List.mem_flatMap.1 h
  exact hE.one x u hu

/-- v is a slice that reads as l in w -/
def RowAt (E : Elem α) (w : World) (v : Value) (l : List α) : Prop :=
  ∃ a c, v = .slice a l.length c ∧ l.length ≤ c ∧ c ≤ maxLen ∧
    (l = [] ∨ ∃ b o, a = some ⟨b, o, none⟩ ∧ ∀ i x, l[i]? = some x → ∀ j u, (E.enc x)[j]? = some u → w.cell? ⟨b, o + (i * E.size + j), none⟩ = some u)
theorem RowAt.nil (E : Elem α) (w : World) : RowAt E w (.slice none 0 0) [] := ⟨none, 0, rfl, Nat.le_refl _, Nat.zero_le _, .inl rfl⟩
theorem RowAt.below {w w' : World} {v : Value} {l : List α} (h : RowAt E w v l) (hb : Below w.heap.size w w') : RowAt E w' v l := by
  obtain ⟨a, c, rfl, h1, h2, h3⟩ := h
  refine ⟨a, c, rfl, h1, h2, h3.imp id ?_⟩
  rintro ⟨b, o, rfl, hc⟩
  refine ⟨b, o, rfl, fun i x hx j u hu => ?_⟩
  have := hc i x hx j u hu
  rw [hb.cell (World.block_lt_of_cell? w _ this)]
  exact this
theorem RowAt.alloc {w : World} {v : Value} {l : List α} (h : RowAt E w v l) (o : Obj) : RowAt E (w.alloc o) v l := h.below ((Below.refl _ _).alloc (Nat.le_refl _) o)
theorem RowAt.src (hE : E.Ok) {w : World} {v : Value} {l : List α} (h : RowAt E w v l) : Src Tryd.prog E.size E.sl v l.length (E.all l) w := by
  obtain ⟨a, c, rfl, hlc, _, hl⟩ := h
  rcases hl with rfl | ⟨b, o, rfl, hc⟩
  · cases a with
    | none => exact Src.ofNil w hE.und c
    | some a => exact Src.ofSlice w hE.und a 0 c [] (by simp) (fun j u hj => by simp at hj) (fun _ h => by cases h)
  · refine Src.ofSlice w hE.und ⟨b, o, none⟩ l.length c _ (Elem.all_length hE l) (fun j u hj => ?_) (fun u hu => Elem.all_one hE hu)
    have hadd : (⟨b, o, none⟩ : Addr).add j = ⟨b, o + j, none⟩ := by unfold Addr.add; split <;> simp_all
    rw [hadd]
    have hlt : j < l.length * E.size := by rw [← Elem.all_length hE l]; exact (List.getElem?_eq_some_iff.1 hj).1
    have hpos : 0 < E.size := by
      rcases Nat.eq_zero_or_pos E.size with h0 | h0
      · rw [h0] at hlt; omega
      · exact h0
    have hk : j / E.size < l.length := Nat.div_lt_of_lt_mul (by rw [Nat.mul_comm]; exact hlt)
    obtain ⟨x, hx⟩ : ∃ x, l[j / E.size]? = some x := ⟨l[j / E.size], List.getElem?_eq_getElem hk⟩
    have hm : j % E.size < (E.enc x).length := by rw [hE.len]; exact Nat.mod_lt _ hpos
    have e : j / E.size * E.size + j % E.size = j := by rw [Nat.mul_comm]; exact Nat.div_add_mod j E.size
    have h1 := Elem.all_at hE hx (List.getElem?_eq_getElem hm)
    rw [e] at h1
    have := hc _ x hx (j % E.size) _ (List.getElem?_eq_getElem hm)
    rw [e] at this
    rw [this, ← h1, hj]

/-- v is a slice in memory that was made from block 'base' on; it reads as l -/
def OwnR (E : Elem α) (w : World) (base : Nat) (v : Value) (l : List α) : Prop := w.ownsRow base E.el E.size v l.length (E.all l)
theorem OwnR.nil (E : Elem α) (w : World) (base : Nat) : OwnR E w base (.slice none 0 0) [] := World.ownsRow_nil w base _ _
theorem OwnR.row {w : World} {base : Nat} {v : Value} {l : List α} (h : OwnR E w base v l) : (v = .slice none 0 0 ∧ l = []) ∨ ∃ g cap, v = .slice (some ⟨g, 0, none⟩) l.length cap ∧ base ≤ g ∧ g < w.heap.size ∧ l.length ≤ cap ∧ cap ≤ maxLen := by
  rcases h.2 with ⟨rfl, h0⟩ | ⟨g, cap, cur, rfl, hb, hg, hnc, hcm, hcs, htake⟩
  · exact .inl ⟨rfl, List.eq_nil_of_length_eq_zero h0⟩
  · exact .inr ⟨g, cap, rfl, hb, (Array.getElem?_eq_some_iff.1 hg).1, hnc, hcm⟩
theorem OwnR.cell (hE : E.Ok) {w : World} {base g n cap : Nat} {l : List α} (h : OwnR E w base (.slice (some ⟨g, 0, none⟩) n cap) l) {k j : Nat} {x : α} {u : Value} (hx : l[k]? = some x) (hu : (E.enc x)[j]? = some u) :
    w.cell? ⟨g, k * E.size + j, none⟩ = some u := by
  have hn : n = l.length := by
    rcases h.2 with ⟨h, _⟩ | ⟨_, _, _, h, _⟩ <;> simp at h
    exact h.2.1
  subst hn
  have h1 := Elem.all_at hE hx hu
  have hlt : k * E.size + j < l.length * E.size := by rw [← Elem.all_length hE l]; exact (List.getElem?_eq_some_iff.1 h1).1
  rw [World.ownsRow.cellAt h _ hlt]
  exact h1
theorem OwnR.free {w : World} {base g n cap : Nat} {l : List α} (h : OwnR E w base (.slice (some ⟨g, 0, none⟩) n cap) l) (k : Nat) : w.frozen? ⟨g, k, none⟩ = false := by
  have hn : n = l.length := by
    rcases h.2 with ⟨h, _⟩ | ⟨_, _, _, h, _⟩ <;> simp at h
    exact h.2.1
  subst hn
  exact World.ownsRow.frozenAt h k
theorem OwnR.at (hE : E.Ok) {w : World} {base : Nat} {v : Value} {l : List α} (h : OwnR E w base v l) : RowAt E w v l := by
  rcases h.row with ⟨rfl, rfl⟩ | ⟨g, cap, rfl, h1, h2, h3, h4⟩
  · exact RowAt.nil E w
  · refine ⟨_, cap, rfl, h3, h4, .inr ⟨g, 0, rfl, fun i x hx j u hu => ?_⟩⟩
    rw [Nat.zero_add]
    exact h.cell hE hx hu
theorem OwnR.mono {w : World} {base b2 : Nat} {v : Value} {l : List α} (h : OwnR E w base v l) (hb : b2 ≤ base) : OwnR E w b2 v l := by
  refine ⟨h.1, h.2.imp id ?_⟩
  rintro ⟨g, cap, cur, h1, h2, r⟩
  exact ⟨g, cap, cur, h1, by omega, r⟩
theorem OwnR.below {w w' : World} {base B : Nat} {v : Value} {l : List α} (h : OwnR E w base v l) (hb : Below B w w') (hB : w.heap.size ≤ B) : OwnR E w' base v l := by
  refine ⟨h.1, h.2.imp id ?_⟩
  rintro ⟨g, cap, cur, h1, h2, hg, r⟩
  have := (Array.getElem?_eq_some_iff.1 hg).1
  exact ⟨g, cap, cur, h1, h2, by rw [hb.block g (by omega)]; exact hg, r⟩
theorem OwnR.grown {w w' : World} {base : Nat} {v : Value} {l : List α} {row : Option Nat} (h : OwnR E w base v l) (hg : w.grownBy w' row) (hne : v.ownBlock = none ∨ v.ownBlock ≠ row) : OwnR E w' base v l := World.ownsRow.kept h hg hne
theorem OwnR.lt {w : World} {base : Nat} {v : Value} {l : List α} (h : OwnR E w base v l) : ∀ k, v.ownBlock = some k → base ≤ k ∧ k < w.heap.size := World.ownsRow.lt h
theorem OwnR.ne_row {w : World} {base b : Nat} {v : Value} {l : List α} (h : OwnR E w base v l) (hb : b < base) : v.ownBlock ≠ some b := fun e => by have := (h.lt b e).1; omega
theorem OwnR.keep {w w' : World} {base g : Nat} {v : Value} {l : List α} (h : OwnR E w base v l) (hg : w.grownBy w' (some g)) (hlt : g < base) : OwnR E w' base v l :=
  h.grown hg (by
    cases hv : v.ownBlock with
    | none => exact .inl rfl
    | some k => right; intro e; have := (h.lt k hv).1; simp at e; omega)
theorem OwnR.alloc {w : World} {base : Nat} {v : Value} {l : List α} (h : OwnR E w base v l) (o : Obj) : OwnR E (w.alloc o) base v l := World.ownsRow.alloc h o
theorem OwnR.drew {w : World} {base : Nat} {v : Value} {l : List α} (h : OwnR E w base v l) : OwnR E w.drew base v l := h
theorem OwnR.slice {w : World} {base : Nat} {v : Value} {l : List α} (h : OwnR E w base v l) : ∃ a c, v = .slice a l.length c ∧ l.length ≤ c ∧ c ≤ maxLen := by
  rcases h.row with ⟨rfl, rfl⟩ | ⟨g, cap, rfl, h1, h2, h3, h4⟩
  · exact ⟨none, 0, rfl, Nat.le_refl _, Nat.zero_le _⟩
  · exact ⟨_, cap, rfl, h3, h4⟩
/-- '[]T{}' -/
theorem OwnR.empty (w : World) (base : Nat) (h : base ≤ w.heap.size) : OwnR E (w.alloc (.cells #[] E.el)) base (.slice (some ⟨w.heap.size, 0, none⟩) 0 0) [] := by
  refine ⟨by simp [Elem.all], .inr ⟨w.heap.size, 0, #[], rfl, h, heap_alloc_new w _, Nat.le_refl _, Nat.zero_le _, by simp, by simp [Elem.all]⟩⟩
theorem OwnR.empty_at (w : World) (base n : Nat) (hn : w.heap.size = n) (h : base ≤ n) : OwnR E (w.alloc (.cells #[] E.el)) base (.slice (some ⟨n, 0, none⟩) 0 0) [] := by
  subst hn; exact OwnR.empty w base h
/-- a store into one cell of an element -/
theorem OwnR.set (hE : E.Ok) {w : World} {base g n cap : Nat} {l : List α} (h : OwnR E w base (.slice (some ⟨g, 0, none⟩) n cap) l) {k j : Nat} {x y : α} {u : Value} (hx : l[k]? = some x) (hj : j < E.size) (hy : E.enc y = (E.enc x).set j u) :
    OwnR E (w.setCell ⟨g, k * E.size + j, none⟩ u) base (.slice (some ⟨g, 0, none⟩) n cap) (l.set k y) := by
  have hn : n = l.length := by
    rcases h.2 with ⟨h, _⟩ | ⟨_, _, _, h, _⟩ <;> simp at h
    exact h.2.1
  subst hn
  have := (World.ownsRow.stored h (k * E.size + j) u).1
  unfold OwnR
  rw [List.length_set, ← Elem.all_set hE hx hj hy]
  exact this

/-- one element in a block of its own -/
theorem RowAt.one (w : World) (x : α) (cs : Array Value) (t : TypeId) (hcs : cs.toList = E.enc x) (n : Nat) (hn : w.heap.size = n) : RowAt E (w.alloc (.cells cs t)) (.slice (some ⟨n, 0, none⟩) 1 1) [x] := by
  subst hn
  refine ⟨_, 1, rfl, by simp, by unfold maxLen; omega, .inr ⟨w.heap.size, 0, rfl, fun i y hy j u hu => ?_⟩⟩
  have h0 : i = 0 := by
    have := (List.getElem?_eq_some_iff.1 hy).1
    simp at this; omega
  subst h0
  simp at hy
  subst hy
  rw [← hcs] at hu
  rw [show 0 + (0 * E.size + j) = j by omega, cell_of_row _ w.heap.size j cs t (0, 0) (heap_alloc_new w _)]
  simpa using hu
/-- append of whatever yields elements, onto a row of the call's own -/
theorem wpList_append_row {ops : Array Oper} {rest : List Oper} {o : Oper} {a : Act} {Q : Exit → Act → World → Prop} {w : World} (E : Elem α) (hE : E.Ok) (hgd : o.guard = none) (s x : Operand)
    (ho : o.op = .call { callee := .builtin .append, args := #[s, x], argTypes := #[E.sl, E.sl] }) (base : Nat)
    (v : Value) (l : List α) (hs : a.eval s = v) (hown : OwnR E w base v l)
    (X : Value) (m : List α) (hx : a.eval x = X) (hsrc : RowAt E w X m)
    (hb : (l.length + m.length) * E.bytes ≤ 140737488355328) (hb2 : l.length + m.length ≤ 140737488355328) (hbase : base ≤ w.heap.size)
    (h : ∀ v' w', OwnR E w' base v' (l ++ m) → w.grownBy w' v.ownBlock → (v' = .slice none 0 0 ↔ v = .slice none 0 0 ∧ m.length = 0) → wpList Tryd.prog ops Q rest (a.put o.dst v') w') : wpList Tryd.prog ops Q (o :: rest) a w := by
  obtain ⟨i, hi, hz, hs1, hb1⟩ := info_parts hE.info
  refine wpList_append_src (P := Tryd.prog) w hgd s x E.sl E.sl ho base E.el i _ E.size E.bytes hE.und hi hz hs1 hb1 hE.zs v l.length (E.all l) hs hown X m.length (E.all m) hx (hsrc.src hE) (by unfold maxLen; omega) hb hbase ?_
  intro v' w' h1 h2 h3
  refine h v' w' ?_ h2 h3
  unfold OwnR
  rw [Elem.all_append, List.length_append]
  exact h1

/-- the same, as one operation of a region that draws -/
theorem step_append_row {o : Oper} {a : Act} {w : World} {K : Act → World → Prop} {Q : Exit → Act → World → Prop} (E : Elem α) (hE : E.Ok) (s x : Operand)
    (ho : o.op = .call { callee := .builtin .append, args := #[s, x], argTypes := #[E.sl, E.sl] }) (base : Nat)
    (v : Value) (l : List α) (hs : a.eval s = v) (hown : OwnR E w base v l)
    (m : List α) (hsrc : RowAt E w (a.eval x) m)
    (hb : (l.length + m.length) * E.bytes ≤ 140737488355328) (hb2 : l.length + m.length ≤ 140737488355328) (hbase : base ≤ w.heap.size)
    (h : ∀ v' w', OwnR E w' base v' (l ++ m) → w.grownBy w' v.ownBlock → (v' = .slice none 0 0 ↔ v = .slice none 0 0 ∧ m.length = 0) → K (a.put o.dst v') w') :
    o.wp Tryd.prog a w K Q := by
  obtain ⟨i, hi, hz, hs1, hb1⟩ := info_parts hE.info
  obtain ⟨v', w', hrun, h2, h3, h4⟩ := run_append_own_src (P := Tryd.prog) w base E.sl E.sl o.type E.el i _ E.size E.bytes hE.und hi hz hs1 hb1 hE.zs v l.length (E.all l) hown (a.eval x) m.length (E.all m) (hsrc.src hE) (by unfold maxLen; omega) hb hbase
  unfold Oper.wp
  simp [execOp, ho, resolve, invoke, builtin, hs, hrun, Result.andThen]
  refine h v' w' ?_ h3 h4
  unfold OwnR
  rw [Elem.all_append, List.length_append]
  exact h2
/-- make of elements, each of them 'z' -/
theorem wpList_make_row {ops : Array Oper} {rest : List Oper} {o : Oper} {a : Act} {Q : Exit → Act → World → Prop} {w : World} (E : Elem α) (hE : E.Ok) (z : α) (hzr : E.zero.cells.toList = E.enc z)
    (hg : o.guard = none) (l c : Operand) (hop : o.op = Op.makeSlice E.sl l c)
    (n : Nat) (L C : Int) (hl : a.eval l = .int .i64 L) (hc : a.eval c = .int .i64 C) (hL : L = (n : Int)) (hC : C = (n : Int)) (hb : E.bytes * n ≤ 281474976710656) (hb2 : n ≤ 140737488355328) (B : Nat) (hB : w.heap.size = B)
    (hK : ∀ w', OwnR E w' B (.slice (some ⟨B, 0, none⟩) n n) (List.replicate n z) → w.grownBy w' none → wpList Tryd.prog ops Q rest (a.put o.dst (.slice (some ⟨B, 0, none⟩) n n)) w') :
    wpList Tryd.prog ops Q (o :: rest) a w := by
  subst hB
  obtain ⟨i0, hi, hz0, hz1, hz2⟩ := info_parts hE.info
  refine wpList_make_full w hg l c E.sl hop w.heap.size E.el i0 E.zero E.size hE.und hi hz0 hz1 .i64 .i64 L C n hl hc hL hC (by rw [hz2]; exact hb) (by unfold maxLen; omega) (Nat.le_refl _) ?_
  intro w1 h1 h2
  refine hK w1 ?_ h2
  unfold OwnR
  have e : (madeCells E.zero.cells (n * E.size)).toList = E.all (List.replicate n z) := by
    apply List.ext_getElem?
    intro j
    have hlen : (E.all (List.replicate n z)).length = n * E.size := by rw [Elem.all_length hE, List.length_replicate]
    by_cases hj : j < n * E.size
    · have hpos : 0 < E.size := by
        rcases Nat.eq_zero_or_pos E.size with h0 | h0
        · rw [h0] at hj; omega
        · exact h0
      have hm : j % E.size < (E.enc z).length := by rw [hE.len]; exact Nat.mod_lt _ hpos
      have hk : j / E.size < n := Nat.div_lt_of_lt_mul (by rw [Nat.mul_comm]; exact hj)
      have h3 := Elem.all_at hE (l := List.replicate n z) (k := j / E.size) (x := z) (by rw [List.getElem?_replicate, if_pos hk]) (List.getElem?_eq_getElem hm)
      rw [show j / E.size * E.size + j % E.size = j by rw [Nat.mul_comm]; exact Nat.div_add_mod j E.size] at h3
      rw [h3]
      have hsz : E.zero.cells.size = E.size := hE.zs
      have h4 : E.zero.cells[j % E.size]? = (E.enc z)[j % E.size]? := by rw [← hzr, Array.getElem?_toList]
      rw [List.getElem?_eq_getElem hm] at h4
      have h5 : E.zero.cells[j % E.size]! = (E.enc z)[j % E.size] := by
        rw [Array.getElem!_eq_getD, Array.getD_eq_getD_getElem?, h4]
        rfl
      simp [madeCells, hj, hsz, h5]
    · rw [List.getElem?_eq_none (by simp [madeCells]; omega), List.getElem?_eq_none (by omega)]
  rw [e] at h1
  rw [List.length_replicate]
  exact h1
end
end Go.Proofs.YtflbioiildndoaaDoor
