/- merged: Append, Elem, Own, CrcMath, Changed -/
import Derived.Test.YtflbioiildndoaaGreatDoorQ1
import Derived.Deep.AppendSrc
import Derived.Laws.AppendOwnNone
import Derived.Laws.CopyOwn
/- slices that the call itself owns: append of whatever yields cells (a slice, nil, a string) -/
namespace Go.Proofs.YtflbioiildndoaaGreatDoor
open Go.RowKit

section
variable {P : Program} (w : World)
theorem run_append_row_src (t tx ty e : TypeId) (i : TypeInfo) (ht : P.underlying t = some (.slice e)) (hi : P.info? e = some i)
    (g sLen sCap : Nat) (cur : Array Value) (hg : w.heap[g]? = some (.cells cur e (0, 0))) (x : Value) (m : Nat) (news : List Value) (hs : Src P i.size tx x m news w)
    (hroom : sLen + m ≤ sCap) (hfit : sLen * i.size + news.length ≤ cur.size) :
    (Builtin.append_ #[t, tx] ty #[.slice (some ⟨g, 0, none⟩) sLen sCap, x]).run P w =
      .ok (.slice (some ⟨g, 0, none⟩) (sLen + m) sCap) (w.setRow g (cur.toList.take (sLen * i.size) ++ news ++ cur.toList.drop (sLen * i.size + news.length)).toArray) := by
  have hst := run_storeCells_at P g (sLen * i.size) e news 0 cur w hg (by simpa using hfit) hs.one
  simp only [Nat.add_zero] at hst
  rcases hs.kind with ⟨e', hk⟩ | hk <;> simp [Builtin.append_, run_underlying ht, run_underlying hk, sizeOf, typeInfo, hi, hs.len, hroom, hs.cells, Addr.add_lit, hst]

theorem run_append_own_src (base : Nat) (t tx ty e : TypeId) (i : TypeInfo) (z : Value) (size bytes : Nat) (ht : P.underlying t = some (.slice e)) (hi : P.info? e = some i) (hz : i.zero = some z)
    (hsize : i.size = size) (hby : i.bytes = bytes) (hzs : z.cells.size = size)
    (v : Value) (n : Nat) (xs : List Value) (hown : w.ownsRow base e size v n xs) (x : Value) (m : Nat) (news : List Value) (hs : Src P size tx x m news w)
    (h63 : n + m ≤ maxLen) (hbytes : (n + m) * bytes ≤ 140737488355328) (hbase : base ≤ w.heap.size) :
    ∃ v' w', (Builtin.append_ #[t, tx] ty #[v, x]).run P w = .ok v' w' ∧ w'.ownsRow base e size v' (n + m) (xs ++ news) ∧ w.grownBy w' v.ownBlock ∧
      (v' = .slice none 0 0 ↔ v = .slice none 0 0 ∧ m = 0) := by
  subst hsize
  subst hby
  have hsmall : n + m ≤ 9223372036854775807 := by simp only [maxLen] at h63; omega
  have hl := hs.newsLen
  have hlen : (xs ++ news).length = (n + m) * i.size := by rw [List.length_append, hown.1, hl, Nat.add_mul]
  have grown : ∀ (old : Nat), old < n + m → ∀ (row : Option Nat),
      (w.drew.alloc (.cells ((xs ++ news).toArray ++ Builtin.zeroCells z.cells (grownCap w (n + m) old e - (n + m))) e)).ownsRow base e i.size
        (.slice (some ⟨w.heap.size, 0, none⟩) (n + m) (grownCap w (n + m) old e)) (n + m) (xs ++ news) ∧
      w.grownBy (w.drew.alloc (.cells ((xs ++ news).toArray ++ Builtin.zeroCells z.cells (grownCap w (n + m) old e - (n + m))) e)) row := by
    intro old ho row
    have hge := grownCap_ge w (n + m) old e
    have hcm : grownCap w (n + m) old e ≤ maxLen := grownCap_le_maxLen w (n + m) old e h63
    refine ⟨⟨hlen, .inr ⟨w.heap.size, _, _, rfl, hbase, heap_alloc_new w.drew _, hge, hcm, ?_, ?_⟩⟩, ⟨rfl, rfl, rfl, by simp, fun k hk _ => Go.RowKit.Below.heap_alloc w.drew _ k hk⟩⟩
    · simp only [Array.size_append, List.size_toArray, size_zeroCells, hzs, hlen, ← Nat.add_mul]
      congr 1
      omega
    · simp only [Array.toList_append]
      rw [← hlen]
      exact List.take_left
  rcases hown.2 with ⟨rfl, rfl⟩ | ⟨g, cap, cur, rfl, hbg, hg, hnc, hcm, hcs, htake⟩
  · have hx : xs = [] := List.eq_nil_of_length_eq_zero (by simpa using hown.1)
    subst hx
    by_cases hm : m = 0
    · subst hm
      have hn : news = [] := List.eq_nil_of_length_eq_zero (by simpa using hl)
      subst hn
      refine ⟨.slice none 0 0, w, ?_, World.ownsRow_nil w base e i.size, ⟨rfl, rfl, rfl, Nat.le_refl _, fun _ _ _ => rfl⟩, by simp⟩
      have hcel := hs.cells
      rcases hs.kind with ⟨e', hk⟩ | hk <;> simp [Builtin.append_, run_underlying ht, run_underlying hk, sizeOf, typeInfo, hi, hs.len, hcel]
    · have hr := run_append_grow_src (P := P) w t tx ty e i z ht hi hz none 0 0 [] (run_firstCells_none w.drew i.size 0 0 0) x m news hs (by omega) (by omega) (growslice_fits (by omega) hbytes)
      have hgr := grown 0 (by omega) (Value.ownBlock (.slice none 0 0))
      simp only [Nat.zero_add, List.nil_append] at hgr ⊢
      exact ⟨_, _, by simpa using hr, hgr.1, hgr.2, by simp [hm]⟩
  · by_cases hroom : n + m ≤ cap
    · have hfit : n * i.size + news.length ≤ cur.size := by rw [hl, hcs, ← Nat.add_mul]; exact Nat.mul_le_mul_right _ hroom
      have hr := run_append_row_src (P := P) w t tx ty e i ht hi g n cap cur hg x m news hs hroom hfit
      refine ⟨_, _, hr, ⟨hlen, .inr ⟨g, cap, _, rfl, hbg, setRow_heap w g cur _ e _ hg, hroom, hcm, ?_, ?_⟩⟩, ⟨rfl, rfl, rfl, by simp, fun k _ hk => setRow_other w g k _ (fun e => hk (by simp [Value.ownBlock, e]))⟩, by simp⟩
      · simp only [List.size_toArray, List.length_append, List.length_take, List.length_drop, Array.length_toList]
        omega
      · rw [htake, ← hlen]
        exact List.take_left
    · have holds : ∀ j u, xs[j]? = some u → w.cell? ((⟨g, 0, none⟩ : Addr).add j) = some u := hown.cells (g := g) rfl
      have hr := run_append_grow_src (P := P) w t tx ty e i z ht hi hz (some ⟨g, 0, none⟩) n cap xs (run_firstCells_some w.drew i.size n ⟨g, 0, none⟩ n cap xs hown.1 (by simpa using holds)) x m news hs (by omega) (by omega) (growslice_fits (by omega) hbytes)
      have hgr := grown cap (by omega) (Value.ownBlock (.slice (some ⟨g, 0, none⟩) n cap))
      exact ⟨_, _, hr, hgr.1, hgr.2, by simp⟩

theorem wpList_append_src {ops : Array Oper} {rest : List Oper} {o : Oper} {a : Act} {Q : Exit → Act → World → Prop} (hgd : o.guard = none) (s x : Operand) (t tx : TypeId)
    (ho : o.op = .call { callee := .builtin .append, args := #[s, x], argTypes := #[t, tx] })
    (base : Nat) (e : TypeId) (i : TypeInfo) (z : Value) (size bytes : Nat) (ht : P.underlying t = some (.slice e)) (hi : P.info? e = some i) (hz : i.zero = some z)
    (hsize : i.size = size) (hby : i.bytes = bytes) (hzs : z.cells.size = size)
    (v : Value) (n : Nat) (xs : List Value) (hs : a.eval s = v) (hown : w.ownsRow base e size v n xs)
    (X : Value) (m : Nat) (news : List Value) (hx : a.eval x = X) (hsrc : Src P size tx X m news w)
    (h63 : n + m ≤ maxLen) (hbytes : (n + m) * bytes ≤ 140737488355328) (hbase : base ≤ w.heap.size)
    (h : ∀ v' w', w'.ownsRow base e size v' (n + m) (xs ++ news) → w.grownBy w' v.ownBlock → (v' = .slice none 0 0 ↔ v = .slice none 0 0 ∧ m = 0) → wpList P ops Q rest (a.put o.dst v') w') : wpList P ops Q (o :: rest) a w := by
  refine wpList_plain hgd fun K hK => ?_
  obtain ⟨v', w', hrun, h2, h3, h4⟩ := run_append_own_src (P := P) w base t tx o.type e i z size bytes ht hi hz hsize hby hzs v n xs hown X m news hsrc h63 hbytes hbase
  unfold Oper.wp
  simp [execOp, ho, resolve, invoke, builtin, hs, hx, hrun, Result.andThen]
  exact hK _ _ (h v' w' h2 h3 h4)
end
/-- one store more into the one block -/
theorem grownBy_set {w w' : World} {g : Nat} (h : w.grownBy w' (some g)) (j : Nat) (u : Value) : w.grownBy (w'.setCell ⟨g, j, none⟩ u) (some g) :=
  ⟨h.os, h.tape, h.output, by simpa using h.size, fun k hk hne => by
    rw [Below.heap_setCell _ _ _ _ (fun e => hne (by rw [e]))]
    exact h.block k hk hne⟩
theorem grown_trans {w w1 w2 : World} {row : Option Nat} (h : w.grownBy w1 row) (k : w1.grownBy w2 row) : w.grownBy w2 row :=
  ⟨k.os.trans h.os, k.tape.trans h.tape, k.output.trans h.output, Nat.le_trans h.size k.size, fun i hi hne => (k.block i (Nat.lt_of_lt_of_le hi h.size) hne).trans (h.block i hi hne)⟩
theorem grown_of_below {w w' : World} {B : Nat} (h : Below B w w') (hB : w.heap.size ≤ B) (row : Option Nat) : w.grownBy w' row :=
  ⟨h.os, h.tape, h.output, h.size, fun i hi _ => h.block i (by omega)⟩
theorem below_of_grown {w w' : World} {B g : Nat} (h : w.grownBy w' (some g)) (hg : B ≤ g) (hB : B ≤ w.heap.size) : Below B w w' :=
  ⟨h.os, h.tape, h.output, h.size, fun i hi => h.block i (by omega) (fun e => by simp at e; omega)⟩
end Go.Proofs.YtflbioiildndoaaGreatDoor

/- slices of any elements, each of so many cells: what one reads as; those that the call itself owns; append, make -/
namespace Go.Proofs.YtflbioiildndoaaGreatDoor
open Go.RowKit

/-- how the elements of a slice lie in memory -/
structure Elem (α : Type) where
  sl : TypeId
  el : TypeId
  size : Nat
  bytes : Nat
  zero : Value
  enc : α → List Value
structure Elem.Ok {α : Type} (E : Elem α) : Prop where
  len : ∀ x, (E.enc x).length = E.size
  one : ∀ x, ∀ u ∈ E.enc x, u.oneCell' = true
  und : Tryz.prog.underlying E.sl = some (.slice E.el)
  info : (Tryz.prog.info? E.el).map (fun i => (i.zero, i.size, i.bytes)) = some (some E.zero, E.size, E.bytes)
  zs : E.zero.cells.size = E.size

section
variable {α : Type} {E : Elem α}
def Elem.all (E : Elem α) (l : List α) : List Value := l.flatMap E.enc
theorem Elem.all_append (E : Elem α) (l m : List α) : E.all (l ++ m) = E.all l ++ E.all m := by simp [Elem.all]
theorem Elem.all_length (hE : E.Ok) (l : List α) : (E.all l).length = l.length * E.size := by
  induction l with
  | nil => simp [Elem.all]
  | cons x l ih =>
    simp only [Elem.all, List.flatMap_cons, List.length_append, List.length_cons, hE.len, Nat.add_mul, Nat.one_mul] at ih ⊢
    rw [ih]; omega
theorem Elem.all_at (hE : E.Ok) {l : List α} {k j : Nat} {x : α} {u : Value} (h : l[k]? = some x) (hu : (E.enc x)[j]? = some u) : (E.all l)[k * E.size + j]? = some u := by
  have hj : j < E.size := by rw [← hE.len x]; exact (List.getElem?_eq_some_iff.1 hu).1
  induction l generalizing k with
  | nil => simp at h
  | cons y l ih =>
    simp only [Elem.all, List.flatMap_cons]
    cases k with
    | zero =>
      simp at h; subst h
      rw [Nat.zero_mul, Nat.zero_add, List.getElem?_append_left (by rw [hE.len]; exact hj)]
      exact hu
    | succ k =>
      rw [List.getElem?_append_right (by rw [hE.len, Nat.add_mul]; omega), hE.len, show (k + 1) * E.size + j - E.size = k * E.size + j by rw [Nat.add_mul]; omega]
      exact ih (by simpa using h)
theorem Elem.all_set (hE : E.Ok) {l : List α} {k j : Nat} {x y : α} {u : Value} (h : l[k]? = some x) (hj : j < E.size) (hy : E.enc y = (E.enc x).set j u) : (E.all l).set (k * E.size + j) u = E.all (l.set k y) := by
  induction l generalizing k with
  | nil => simp at h
  | cons z l ih =>
    cases k with
    | zero =>
      simp at h; subst h
      simp only [Elem.all, List.flatMap_cons, List.set_cons_zero]
      rw [Nat.zero_mul, Nat.zero_add, List.set_append_left _ _ (by rw [hE.len]; exact hj), ← hy]
    | succ k =>
      simp only [Elem.all, List.flatMap_cons, List.set_cons_succ]
      rw [List.set_append_right _ _ (by rw [hE.len, Nat.add_mul]; omega), hE.len, show (k + 1) * E.size + j - E.size = k * E.size + j by rw [Nat.add_mul]; omega]
      congr 1
      exact ih (by simpa using h)
theorem Elem.all_one (hE : E.Ok) {l : List α} {u : Value} (h : u ∈ E.all l) : u.oneCell' = true := by
  obtain ⟨x, _, hu⟩ := List.mem_flatMap.1 h
  exact hE.one x u hu

/-- v is a slice that reads as l in w -/
def RowAt (E : Elem α) (w : World) (v : Value) (l : List α) : Prop :=
  ∃ a c, v = .slice a l.length c ∧ l.length ≤ c ∧ c ≤ maxLen ∧
    (l = [] ∨ ∃ b o, a = some ⟨b, o, none⟩ ∧ ∀ i x, l[i]? = some x → ∀ j u, (E.enc x)[j]? = some u → w.cell? ⟨b, o + (i * E.size + j), none⟩ = some u)
theorem RowAt.nil (E : Elem α) (w : World) : RowAt E w (.slice none 0 0) [] := ⟨none, 0, rfl, Nat.le_refl _, Nat.zero_le _, .inl rfl⟩
theorem RowAt.below {w w' : World} {v : Value} {l : List α} (h : RowAt E w v l) (hb : Below w.heap.size w w') : RowAt E w' v l := by
  obtain ⟨a, c, rfl, h1, h2, h3⟩ := h
  refine ⟨a, c, rfl, h1, h2, h3.imp id ?_⟩
  rintro ⟨b, o, rfl, hc⟩
  refine ⟨b, o, rfl, fun i x hx j u hu => ?_⟩
  have := hc i x hx j u hu
  rw [hb.cell (World.block_lt_of_cell? w _ this)]
  exact this
theorem RowAt.alloc {w : World} {v : Value} {l : List α} (h : RowAt E w v l) (o : Obj) : RowAt E (w.alloc o) v l := h.below ((Below.refl _ _).alloc (Nat.le_refl _) o)
theorem RowAt.src (hE : E.Ok) {w : World} {v : Value} {l : List α} (h : RowAt E w v l) : Src Tryz.prog E.size E.sl v l.length (E.all l) w := by
  obtain ⟨a, c, rfl, hlc, _, hl⟩ := h
  rcases hl with rfl | ⟨b, o, rfl, hc⟩
  · cases a with
    | none => exact Src.ofNil w hE.und c
    | some a => exact Src.ofSlice w hE.und a 0 c [] (by simp) (fun j u hj => by simp at hj) (fun _ h => by cases h)
  · refine Src.ofSlice w hE.und ⟨b, o, none⟩ l.length c _ (Elem.all_length hE l) (fun j u hj => ?_) (fun u hu => Elem.all_one hE hu)
    have hadd : (⟨b, o, none⟩ : Addr).add j = ⟨b, o + j, none⟩ := by unfold Addr.add; split <;> simp_all
    rw [hadd]
    have hlt : j < l.length * E.size := by rw [← Elem.all_length hE l]; exact (List.getElem?_eq_some_iff.1 hj).1
    have hpos : 0 < E.size := by
      rcases Nat.eq_zero_or_pos E.size with h0 | h0
      · rw [h0] at hlt; omega
      · exact h0
    have hk : j / E.size < l.length := Nat.div_lt_of_lt_mul (by rw [Nat.mul_comm]; exact hlt)
    obtain ⟨x, hx⟩ : ∃ x, l[j / E.size]? = some x := ⟨l[j / E.size], List.getElem?_eq_getElem hk⟩
    have hm : j % E.size < (E.enc x).length := by rw [hE.len]; exact Nat.mod_lt _ hpos
    have e : j / E.size * E.size + j % E.size = j := by rw [Nat.mul_comm]; exact Nat.div_add_mod j E.size
    have h1 := Elem.all_at hE hx (List.getElem?_eq_getElem hm)
    rw [e] at h1
    have := hc _ x hx (j % E.size) _ (List.getElem?_eq_getElem hm)
    rw [e] at this
    rw [this, ← h1, hj]

/-- v is a slice in memory that was made from block 'base' on; it reads as l -/
def OwnR (E : Elem α) (w : World) (base : Nat) (v : Value) (l : List α) : Prop := w.ownsRow base E.el E.size v l.length (E.all l)
theorem OwnR.nil (E : Elem α) (w : World) (base : Nat) : OwnR E w base (.slice none 0 0) [] := World.ownsRow_nil w base _ _
theorem OwnR.row {w : World} {base : Nat} {v : Value} {l : List α} (h : OwnR E w base v l) : (v = .slice none 0 0 ∧ l = []) ∨ ∃ g cap, v = .slice (some ⟨g, 0, none⟩) l.length cap ∧ base ≤ g ∧ g < w.heap.size ∧ l.length ≤ cap ∧ cap ≤ maxLen := by
  rcases h.2 with ⟨rfl, h0⟩ | ⟨g, cap, cur, rfl, hb, hg, hnc, hcm, hcs, htake⟩
  · exact .inl ⟨rfl, List.eq_nil_of_length_eq_zero h0⟩
  · exact .inr ⟨g, cap, rfl, hb, (Array.getElem?_eq_some_iff.1 hg).1, hnc, hcm⟩
theorem OwnR.cell (hE : E.Ok) {w : World} {base g n cap : Nat} {l : List α} (h : OwnR E w base (.slice (some ⟨g, 0, none⟩) n cap) l) {k j : Nat} {x : α} {u : Value} (hx : l[k]? = some x) (hu : (E.enc x)[j]? = some u) :
    w.cell? ⟨g, k * E.size + j, none⟩ = some u := by
  have hn : n = l.length := by
    rcases h.2 with ⟨h, _⟩ | ⟨_, _, _, h, _⟩ <;> simp at h
    exact h.2.1
  subst hn
  have h1 := Elem.all_at hE hx hu
  have hlt : k * E.size + j < l.length * E.size := by rw [← Elem.all_length hE l]; exact (List.getElem?_eq_some_iff.1 h1).1
  rw [World.ownsRow.cellAt h _ hlt]
  exact h1
theorem OwnR.free {w : World} {base g n cap : Nat} {l : List α} (h : OwnR E w base (.slice (some ⟨g, 0, none⟩) n cap) l) (k : Nat) : w.frozen? ⟨g, k, none⟩ = false := by
  have hn : n = l.length := by
    rcases h.2 with ⟨h, _⟩ | ⟨_, _, _, h, _⟩ <;> simp at h
    exact h.2.1
  subst hn
  exact World.ownsRow.frozenAt h k
theorem OwnR.at (hE : E.Ok) {w : World} {base : Nat} {v : Value} {l : List α} (h : OwnR E w base v l) : RowAt E w v l := by
  rcases h.row with ⟨rfl, rfl⟩ | ⟨g, cap, rfl, h1, h2, h3, h4⟩
  · exact RowAt.nil E w
  · refine ⟨_, cap, rfl, h3, h4, .inr ⟨g, 0, rfl, fun i x hx j u hu => ?_⟩⟩
    rw [Nat.zero_add]
    exact h.cell hE hx hu
theorem OwnR.mono {w : World} {base b2 : Nat} {v : Value} {l : List α} (h : OwnR E w base v l) (hb : b2 ≤ base) : OwnR E w b2 v l := by
  refine ⟨h.1, h.2.imp id ?_⟩
  rintro ⟨g, cap, cur, h1, h2, r⟩
  exact ⟨g, cap, cur, h1, by omega, r⟩
theorem OwnR.below {w w' : World} {base B : Nat} {v : Value} {l : List α} (h : OwnR E w base v l) (hb : Below B w w') (hB : w.heap.size ≤ B) : OwnR E w' base v l := by
  refine ⟨h.1, h.2.imp id ?_⟩
  rintro ⟨g, cap, cur, h1, h2, hg, r⟩
  have := (Array.getElem?_eq_some_iff.1 hg).1
  exact ⟨g, cap, cur, h1, h2, by rw [hb.block g (by omega)]; exact hg, r⟩
theorem OwnR.grown {w w' : World} {base : Nat} {v : Value} {l : List α} {row : Option Nat} (h : OwnR E w base v l) (hg : w.grownBy w' row) (hne : v.ownBlock = none ∨ v.ownBlock ≠ row) : OwnR E w' base v l := World.ownsRow.kept h hg hne
theorem OwnR.lt {w : World} {base : Nat} {v : Value} {l : List α} (h : OwnR E w base v l) : ∀ k, v.ownBlock = some k → base ≤ k ∧ k < w.heap.size := World.ownsRow.lt h
theorem OwnR.ne_row {w : World} {base b : Nat} {v : Value} {l : List α} (h : OwnR E w base v l) (hb : b < base) : v.ownBlock ≠ some b := fun e => by have := (h.lt b e).1; omega
theorem OwnR.keep {w w' : World} {base g : Nat} {v : Value} {l : List α} (h : OwnR E w base v l) (hg : w.grownBy w' (some g)) (hlt : g < base) : OwnR E w' base v l :=
  h.grown hg (by
    cases hv : v.ownBlock with
    | none => exact .inl rfl
    | some k => right; intro e; have := (h.lt k hv).1; simp at e; omega)
theorem OwnR.alloc {w : World} {base : Nat} {v : Value} {l : List α} (h : OwnR E w base v l) (o : Obj) : OwnR E (w.alloc o) base v l := World.ownsRow.alloc h o
theorem OwnR.drew {w : World} {base : Nat} {v : Value} {l : List α} (h : OwnR E w base v l) : OwnR E w.drew base v l := h
theorem OwnR.slice {w : World} {base : Nat} {v : Value} {l : List α} (h : OwnR E w base v l) : ∃ a c, v = .slice a l.length c ∧ l.length ≤ c ∧ c ≤ maxLen := by
  rcases h.row with ⟨rfl, rfl⟩ | ⟨g, cap, rfl, h1, h2, h3, h4⟩
  · exact ⟨none, 0, rfl, Nat.le_refl _, Nat.zero_le _⟩
  · exact ⟨_, cap, rfl, h3, h4⟩
/-- '[]T{}' -/
theorem OwnR.empty (w : World) (base : Nat) (h : base ≤ w.heap.size) : OwnR E (w.alloc (.cells #[] E.el)) base (.slice (some ⟨w.heap.size, 0, none⟩) 0 0) [] := by
  refine ⟨by simp [Elem.all], .inr ⟨w.heap.size, 0, #[], rfl, h, heap_alloc_new w _, Nat.le_refl _, Nat.zero_le _, by simp, by simp [Elem.all]⟩⟩
theorem OwnR.empty_at (w : World) (base n : Nat) (hn : w.heap.size = n) (h : base ≤ n) : OwnR E (w.alloc (.cells #[] E.el)) base (.slice (some ⟨n, 0, none⟩) 0 0) [] := by
  subst hn; exact OwnR.empty w base h
/-- a store into one cell of an element -/
theorem OwnR.set (hE : E.Ok) {w : World} {base g n cap : Nat} {l : List α} (h : OwnR E w base (.slice (some ⟨g, 0, none⟩) n cap) l) {k j : Nat} {x y : α} {u : Value} (hx : l[k]? = some x) (hj : j < E.size) (hy : E.enc y = (E.enc x).set j u) :
    OwnR E (w.setCell ⟨g, k * E.size + j, none⟩ u) base (.slice (some ⟨g, 0, none⟩) n cap) (l.set k y) := by
  have hn : n = l.length := by
    rcases h.2 with ⟨h, _⟩ | ⟨_, _, _, h, _⟩ <;> simp at h
    exact h.2.1
  subst hn
  have := (World.ownsRow.stored h (k * E.size + j) u).1
  unfold OwnR
  rw [List.length_set, ← Elem.all_set hE hx hj hy]
  exact this

/-- one element in a block of its own -/
theorem RowAt.one (w : World) (x : α) (cs : Array Value) (t : TypeId) (hcs : cs.toList = E.enc x) (n : Nat) (hn : w.heap.size = n) : RowAt E (w.alloc (.cells cs t)) (.slice (some ⟨n, 0, none⟩) 1 1) [x] := by
  subst hn
  refine ⟨_, 1, rfl, by simp, by unfold maxLen; omega, .inr ⟨w.heap.size, 0, rfl, fun i y hy j u hu => ?_⟩⟩
  have h0 : i = 0 := by
    have := (List.getElem?_eq_some_iff.1 hy).1
    simp at this; omega
  subst h0
  simp at hy
  subst hy
  rw [← hcs] at hu
  rw [show 0 + (0 * E.size + j) = j by omega, cell_of_row _ w.heap.size j cs t (0, 0) (heap_alloc_new w _)]
  simpa using hu
/-- append of whatever yields elements, onto a row of the call's own -/
theorem wpList_append_row {ops : Array Oper} {rest : List Oper} {o : Oper} {a : Act} {Q : Exit → Act → World → Prop} {w : World} (E : Elem α) (hE : E.Ok) (hgd : o.guard = none) (s x : Operand)
    (ho : o.op = .call { callee := .builtin .append, args := #[s, x], argTypes := #[E.sl, E.sl] }) (base : Nat)
    (v : Value) (l : List α) (hs : a.eval s = v) (hown : OwnR E w base v l)
    (X : Value) (m : List α) (hx : a.eval x = X) (hsrc : RowAt E w X m)
    (hb : (l.length + m.length) * E.bytes ≤ 140737488355328) (hb2 : l.length + m.length ≤ 140737488355328) (hbase : base ≤ w.heap.size)
    (h : ∀ v' w', OwnR E w' base v' (l ++ m) → w.grownBy w' v.ownBlock → (v' = .slice none 0 0 ↔ v = .slice none 0 0 ∧ m.length = 0) → wpList Tryz.prog ops Q rest (a.put o.dst v') w') : wpList Tryz.prog ops Q (o :: rest) a w := by
  obtain ⟨i, hi, hz, hs1, hb1⟩ := info_parts hE.info
  refine wpList_append_src (P := Tryz.prog) w hgd s x E.sl E.sl ho base E.el i _ E.size E.bytes hE.und hi hz hs1 hb1 hE.zs v l.length (E.all l) hs hown X m.length (E.all m) hx (hsrc.src hE) (by unfold maxLen; omega) hb hbase ?_
  intro v' w' h1 h2 h3
  refine h v' w' ?_ h2 h3
  unfold OwnR
  rw [Elem.all_append, List.length_append]
  exact h1

/-- the same, as one operation of a region that draws -/
theorem step_append_row {o : Oper} {a : Act} {w : World} {K : Act → World → Prop} {Q : Exit → Act → World → Prop} (E : Elem α) (hE : E.Ok) (s x : Operand)
    (ho : o.op = .call { callee := .builtin .append, args := #[s, x], argTypes := #[E.sl, E.sl] }) (base : Nat)
    (v : Value) (l : List α) (hs : a.eval s = v) (hown : OwnR E w base v l)
    (m : List α) (hsrc : RowAt E w (a.eval x) m)
    (hb : (l.length + m.length) * E.bytes ≤ 140737488355328) (hb2 : l.length + m.length ≤ 140737488355328) (hbase : base ≤ w.heap.size)
    (h : ∀ v' w', OwnR E w' base v' (l ++ m) → w.grownBy w' v.ownBlock → (v' = .slice none 0 0 ↔ v = .slice none 0 0 ∧ m.length = 0) → K (a.put o.dst v') w') :
    o.wp Tryz.prog a w K Q := by
  obtain ⟨i, hi, hz, hs1, hb1⟩ := info_parts hE.info
  obtain ⟨v', w', hrun, h2, h3, h4⟩ := run_append_own_src (P := Tryz.prog) w base E.sl E.sl o.type E.el i _ E.size E.bytes hE.und hi hz hs1 hb1 hE.zs v l.length (E.all l) hown (a.eval x) m.length (E.all m) (hsrc.src hE) (by unfold maxLen; omega) hb hbase
  unfold Oper.wp
  simp [execOp, ho, resolve, invoke, builtin, hs, hrun, Result.andThen]
  refine h v' w' ?_ h3 h4
  unfold OwnR
  rw [Elem.all_append, List.length_append]
  exact h2
/-- make of elements, each of them 'z' -/
theorem wpList_make_row {ops : Array Oper} {rest : List Oper} {o : Oper} {a : Act} {Q : Exit → Act → World → Prop} {w : World} (E : Elem α) (hE : E.Ok) (z : α) (hzr : E.zero.cells.toList = E.enc z)
    (hg : o.guard = none) (l c : Operand) (hop : o.op = Op.makeSlice E.sl l c)
    (n : Nat) (L C : Int) (hl : a.eval l = .int .i64 L) (hc : a.eval c = .int .i64 C) (hL : L = (n : Int)) (hC : C = (n : Int)) (hb : E.bytes * n ≤ 281474976710656) (hb2 : n ≤ 140737488355328) (B : Nat) (hB : w.heap.size = B)
    (hK : ∀ w', OwnR E w' B (.slice (some ⟨B, 0, none⟩) n n) (List.replicate n z) → w.grownBy w' none → wpList Tryz.prog ops Q rest (a.put o.dst (.slice (some ⟨B, 0, none⟩) n n)) w') :
    wpList Tryz.prog ops Q (o :: rest) a w := by
  subst hB
  obtain ⟨i0, hi, hz0, hz1, hz2⟩ := info_parts hE.info
  refine wpList_make_full w hg l c E.sl hop w.heap.size E.el i0 E.zero E.size hE.und hi hz0 hz1 .i64 .i64 L C n hl hc hL hC (by rw [hz2]; exact hb) (by unfold maxLen; omega) (Nat.le_refl _) ?_
  intro w1 h1 h2
  refine hK w1 ?_ h2
  unfold OwnR
  have e : (madeCells E.zero.cells (n * E.size)).toList = E.all (List.replicate n z) := by
    apply List.ext_getElem?
    intro j
    have hlen : (E.all (List.replicate n z)).length = n * E.size := by rw [Elem.all_length hE, List.length_replicate]
    by_cases hj : j < n * E.size
    · have hpos : 0 < E.size := by
        rcases Nat.eq_zero_or_pos E.size with h0 | h0
        · rw [h0] at hj; omega
        · exact h0
      have hm : j % E.size < (E.enc z).length := by rw [hE.len]; exact Nat.mod_lt _ hpos
      have hk : j / E.size < n := Nat.div_lt_of_lt_mul (by rw [Nat.mul_comm]; exact hj)
      have h3 := Elem.all_at hE (l := List.replicate n z) (k := j / E.size) (x := z) (by rw [List.getElem?_replicate, if_pos hk]) (List.getElem?_eq_getElem hm)
      rw [show j / E.size * E.size + j % E.size = j by rw [Nat.mul_comm]; exact Nat.div_add_mod j E.size] at h3
      rw [h3]
      have hsz : E.zero.cells.size = E.size := hE.zs
      have h4 : E.zero.cells[j % E.size]? = (E.enc z)[j % E.size]? := by rw [← hzr, Array.getElem?_toList]
      rw [List.getElem?_eq_getElem hm] at h4
      have h5 : E.zero.cells[j % E.size]! = (E.enc z)[j % E.size] := by
        rw [Array.getElem!_eq_getD, Array.getD_eq_getD_getElem?, h4]
        rfl
      simp [madeCells, hj, hsz, h5]
    · rw [List.getElem?_eq_none (by simp [madeCells]; omega), List.getElem?_eq_none (by omega)]
  rw [e] at h1
  rw [List.length_replicate]
  exact h1
end
end Go.Proofs.YtflbioiildndoaaGreatDoor

/- slices of bytes that the call itself owns -/
namespace Go.Proofs.YtflbioiildndoaaGreatDoor
open Go.RowKit

/-! ### bytes -/
theorem Tryz.infoByte : (Tryz.prog.info? 5).map (fun i => (i.zero, i.size, i.bytes)) = some (some (.int .u8 0), 1, 1) := by kernel_rfl
def bytesV (l : List UInt8) : List Value := l.map fun x => Value.int .u8 (x.toNat : Int)
theorem bytesV_length (l : List UInt8) : (bytesV l).length = l.length := by simp [bytesV]
theorem bytesV_append (l m : List UInt8) : bytesV (l ++ m) = bytesV l ++ bytesV m := by simp [bytesV]
/-- v is a slice of bytes in memory that was made from block 'base' on; it reads as l -/
def Own (w : World) (base : Nat) (v : Value) (l : List UInt8) : Prop := w.ownsRow base 5 1 v l.length (bytesV l)

theorem Own.nil (w : World) (base : Nat) : Own w base (.slice none 0 0) [] := World.ownsRow_nil w base _ _
theorem Own.bytes {w : World} {base : Nat} {v : Value} {l : List UInt8} (h : Own w base v l) : BytesAt w v l := by
  rcases h.2 with ⟨rfl, h0⟩ | ⟨g, cap, cur, rfl, hb, hg, hnc, hcm, hcs, htake⟩
  · obtain rfl : l = [] := List.eq_nil_of_length_eq_zero h0
    exact BytesAt.nil w
  · refine ⟨_, cap, rfl, hnc, hcm, .inr ⟨g, 0, rfl, fun i x hx => ?_⟩⟩
    have hlt : i < l.length := (List.getElem?_eq_some_iff.1 hx).1
    have := World.ownsRow.cellAt h i (by omega)
    rw [Nat.zero_add, this]
    simp [bytesV, hx]
theorem Own.mono {w : World} {base b2 : Nat} {v : Value} {l : List UInt8} (h : Own w base v l) (hb : b2 ≤ base) : Own w b2 v l := by
  refine ⟨h.1, h.2.imp id ?_⟩
  rintro ⟨g, cap, cur, h1, h2, r⟩
  exact ⟨g, cap, cur, h1, by omega, r⟩
theorem Own.below {w w' : World} {base B : Nat} {v : Value} {l : List UInt8} (h : Own w base v l) (hb : Below B w w') (hB : w.heap.size ≤ B) : Own w' base v l := by
  refine ⟨h.1, h.2.imp id ?_⟩
  rintro ⟨g, cap, cur, h1, h2, hg, r⟩
  have := (Array.getElem?_eq_some_iff.1 hg).1
  exact ⟨g, cap, cur, h1, h2, by rw [hb.block g (by omega)]; exact hg, r⟩
theorem Own.grown {w w' : World} {base : Nat} {v : Value} {l : List UInt8} {row : Option Nat} (h : Own w base v l) (hg : w.grownBy w' row) (hne : v.ownBlock = none ∨ v.ownBlock ≠ row) : Own w' base v l := World.ownsRow.kept h hg hne
theorem Own.lt {w : World} {base : Nat} {v : Value} {l : List UInt8} (h : Own w base v l) : ∀ k, v.ownBlock = some k → base ≤ k ∧ k < w.heap.size := World.ownsRow.lt h

/-- '[]byte{}' -/
theorem Own.empty (w : World) (base : Nat) (h : base ≤ w.heap.size) : Own (w.alloc (.cells #[] 5)) base (.slice (some ⟨w.heap.size, 0, none⟩) 0 0) [] :=
  ⟨rfl, .inr ⟨w.heap.size, 0, #[], rfl, h, heap_alloc_new w _, Nat.le_refl _, Nat.zero_le _, rfl, rfl⟩⟩
theorem BytesAt.alloc {w : World} {v : Value} {l : List UInt8} (h : BytesAt w v l) (o : Obj) : BytesAt (w.alloc o) v l := h.below ((Below.refl _ _).alloc (Nat.le_refl _) o)
theorem Own.alloc {w : World} {base : Nat} {v : Value} {l : List UInt8} (h : Own w base v l) (o : Obj) : Own (w.alloc o) base v l := World.ownsRow.alloc h o
/-- what is owned is nil and empty, or a row -/
theorem Own.row {w : World} {base : Nat} {v : Value} {l : List UInt8} (h : Own w base v l) : (v = .slice none 0 0 ∧ l = []) ∨ ∃ g cap, v = .slice (some ⟨g, 0, none⟩) l.length cap ∧ base ≤ g ∧ g < w.heap.size ∧ l.length ≤ cap ∧ cap ≤ maxLen := by
  rcases h.2 with ⟨rfl, h0⟩ | ⟨g, cap, cur, rfl, hb, hg, hnc, hcm, hcs, htake⟩
  · exact .inl ⟨rfl, List.eq_nil_of_length_eq_zero h0⟩
  · exact .inr ⟨g, cap, rfl, hb, (Array.getElem?_eq_some_iff.1 hg).1, hnc, hcm⟩
theorem Own.cell {w : World} {base g n cap : Nat} {l : List UInt8} (h : Own w base (.slice (some ⟨g, 0, none⟩) n cap) l) (hn : n = l.length) {k : Nat} {x : UInt8} (hx : l[k]? = some x) : w.cell? ⟨g, k, none⟩ = some (.int .u8 (x.toNat : Int)) := by
  subst hn
  have hlt : k < l.length := (List.getElem?_eq_some_iff.1 hx).1
  rw [World.ownsRow.cellAt h k (by omega)]
  simp [bytesV, hx]
theorem Own.free {w : World} {base g n cap : Nat} {l : List UInt8} (h : Own w base (.slice (some ⟨g, 0, none⟩) n cap) l) (hn : n = l.length) (k : Nat) : w.frozen? ⟨g, k, none⟩ = false := by
  subst hn
  exact World.ownsRow.frozenAt h k
theorem Own.set {w : World} {base g n cap : Nat} {l : List UInt8} (h : Own w base (.slice (some ⟨g, 0, none⟩) n cap) l) (hn : n = l.length) (k : Nat) (x : UInt8) :
    Own (w.setCell ⟨g, k, none⟩ (.int .u8 (x.toNat : Int))) base (.slice (some ⟨g, 0, none⟩) n cap) (l.set k x) := by
  subst hn
  have := (World.ownsRow.stored h k (.int .u8 (x.toNat : Int))).1
  unfold Own
  rw [List.length_set]
  have e : (bytesV l).set k (.int .u8 (x.toNat : Int)) = bytesV (l.set k x) := by simp [bytesV, List.map_set]
  rw [← e]
  exact this

theorem Own.slice {w : World} {base : Nat} {v : Value} {l : List UInt8} (h : Own w base v l) : ∃ a c, v = .slice a l.length c ∧ l.length ≤ c ∧ c ≤ maxLen := by
  obtain ⟨a, c, rfl, h1, h2, _⟩ := h.bytes
  exact ⟨a, c, rfl, h1, h2⟩
theorem BytesAt.src {w : World} {v : Value} {l : List UInt8} (h : BytesAt w v l) : Src Tryz.prog 1 53 v l.length (bytesV l) w := by
  obtain ⟨a, c, rfl, hlc, _, hl⟩ := h
  rcases hl with rfl | ⟨b, o, rfl, hc⟩
  · cases a with
    | none => exact Src.ofNil w Tryz.underlying53 c
    | some a => exact Src.ofSlice w Tryz.underlying53 a 0 c [] rfl (fun j u hj => by simp at hj) (fun _ h => by cases h)
  · refine Src.ofSlice w Tryz.underlying53 ⟨b, o, none⟩ l.length c _ (by simp [bytesV]) (fun j u hj => ?_) (fun u hu => ?_)
    · simp only [bytesV, List.getElem?_map, Option.map_eq_some_iff] at hj
      obtain ⟨x, hx, rfl⟩ := hj
      have : (⟨b, o, none⟩ : Addr).add j = ⟨b, o + j, none⟩ := by unfold Addr.add; split <;> simp_all
      rw [this]
      exact hc j x hx
    · obtain ⟨_, _, rfl⟩ := List.mem_map.1 hu
      rfl
theorem str_src (s : ByteArray) (w : World) : Src Tryz.prog 1 9 (.string s) s.size (bytesV s.data.toList) w := Src.ofString w Tryz.underlying9 s

/-- append of whatever yields bytes, onto bytes of the call's own -/
theorem wpList_append_any {ops : Array Oper} {rest : List Oper} {o : Oper} {a : Act} {Q : Exit → Act → World → Prop} {w : World} (hgd : o.guard = none) (s x : Operand) (tx : TypeId)
    (ho : o.op = .call { callee := .builtin .append, args := #[s, x], argTypes := #[53, tx] }) (base : Nat)
    (v : Value) (l : List UInt8) (hs : a.eval s = v) (hown : Own w base v l)
    (X : Value) (m : List UInt8) (hx : a.eval x = X) (hsrc : Src Tryz.prog 1 tx X m.length (bytesV m) w)
    (hb : l.length + m.length ≤ 140737488355328) (hbase : base ≤ w.heap.size)
    (h : ∀ v' w', Own w' base v' (l ++ m) → w.grownBy w' v.ownBlock → (v' = .slice none 0 0 ↔ v = .slice none 0 0 ∧ m.length = 0) → wpList Tryz.prog ops Q rest (a.put o.dst v') w') : wpList Tryz.prog ops Q (o :: rest) a w := by
  obtain ⟨i, hi, hz, hs1, hb1⟩ := info_parts Tryz.infoByte
  refine wpList_append_src (P := Tryz.prog) w hgd s x 53 tx ho base 5 i _ 1 1 Tryz.underlying53 hi hz hs1 hb1 rfl v l.length (bytesV l) hs hown X m.length (bytesV m) hx hsrc (by unfold maxLen; omega) (by omega) hbase ?_
  intro v' w' h1 h2 h3
  refine h v' w' ?_ h2 h3
  unfold Own
  rw [bytesV_append, List.length_append]
  exact h1
theorem wpList_append_bytes {ops : Array Oper} {rest : List Oper} {o : Oper} {a : Act} {Q : Exit → Act → World → Prop} {w : World} (hgd : o.guard = none) (s x : Operand)
    (ho : o.op = .call { callee := .builtin .append, args := #[s, x], argTypes := #[53, 53] }) (base : Nat)
    (v : Value) (l : List UInt8) (hs : a.eval s = v) (hown : Own w base v l)
    (X : Value) (m : List UInt8) (hx : a.eval x = X) (hsrc : BytesAt w X m)
    (hb : l.length + m.length ≤ 140737488355328) (hbase : base ≤ w.heap.size)
    (h : ∀ v' w', Own w' base v' (l ++ m) → w.grownBy w' v.ownBlock → (v' = .slice none 0 0 ↔ v = .slice none 0 0 ∧ m.length = 0) → wpList Tryz.prog ops Q rest (a.put o.dst v') w') : wpList Tryz.prog ops Q (o :: rest) a w :=
  wpList_append_any hgd s x _ ho base v l hs hown X m hx hsrc.src hb hbase h

/-- make of bytes -/
theorem wpList_make_bytes {ops : Array Oper} {rest : List Oper} {o : Oper} {a : Act} {Q : Exit → Act → World → Prop} {w : World} (hg : o.guard = none) (l c : Operand) (hop : o.op = Op.makeSlice 53 l c)
    (n : Nat) (L C : Int) (hl : a.eval l = .int .i64 L) (hc : a.eval c = .int .i64 C) (hL : L = (n : Int)) (hC : C = (n : Int)) (hb : n ≤ 140737488355328)
    (hK : ∀ w', Own w' w.heap.size (.slice (some ⟨w.heap.size, 0, none⟩) n n) (List.replicate n 0) → w.grownBy w' none → wpList Tryz.prog ops Q rest (a.put o.dst (.slice (some ⟨w.heap.size, 0, none⟩) n n)) w') :
    wpList Tryz.prog ops Q (o :: rest) a w := by
  obtain ⟨i0, hi, hz0, hz1, hz2⟩ := info_parts Tryz.infoByte
  refine wpList_make_full w hg l c 53 hop w.heap.size 5 i0 (.int .u8 0) 1 Tryz.underlying53 hi hz0 hz1 .i64 .i64 L C n hl hc hL hC (by rw [hz2]; omega) (by unfold maxLen; omega) (Nat.le_refl _) ?_
  intro w1 h1 h2
  refine hK w1 ?_ h2
  unfold Own
  have e : (madeCells (Value.cells (.int .u8 0)) (n * 1)).toList = bytesV (List.replicate n 0) := by
    show (madeCells #[Value.int .u8 0] (n * 1)).toList = _
    rw [toList_madeCells_one]
    simp [bytesV]
  rw [e] at h1
  rw [List.length_replicate]
  exact h1

/-- 'string(b)' -/
theorem string_of {w : World} {v : Value} {l : List UInt8} (h : BytesAt w v l) : (convert 53 9 v).run Tryz.prog w = .ok (.string ⟨l.toArray⟩) w := by
  obtain ⟨a, c, rfl, hlc, _, hl⟩ := h
  rcases hl with rfl | ⟨b, o, rfl, hc⟩
  · show (convert 53 9 (.slice a 0 c)).run Tryz.prog w = _
    rw [run_convert_bytes_string w 53 9 5 a 0 c Tryz.underlying53 Tryz.underlying5 Tryz.underlying9]
    cases a <;> simp [Conv.bytesToString] <;> rfl
  · refine run_convert_bytes_back w 53 9 5 ⟨b, o, none⟩ c l Tryz.underlying53 Tryz.underlying5 Tryz.underlying9 (fun j hj => ?_)
    have e : (⟨b, o, none⟩ : Addr).add j = ⟨b, o + j, none⟩ := by unfold Addr.add; split <;> simp_all
    rw [e]
    exact hc j l[j] (List.getElem?_eq_getElem hj)
/-- 'b[lo:hi]', lo behind b's beginning -/
theorem BytesAt.cut {w : World} {b o len c : Nat} {l : List UInt8} (h : BytesAt w (.slice (some ⟨b, o, none⟩) len c) l) (lo n : Nat) (hn : lo + n ≤ l.length) :
    BytesAt w (.slice (some ⟨b, o + lo, none⟩) n (c - lo)) ((l.drop lo).take n) := by
  obtain ⟨a', c', e, h1, h2, h3⟩ := h
  simp only [Value.slice.injEq] at e
  obtain ⟨rfl, rfl, rfl⟩ := e
  have hlen : ((l.drop lo).take n).length = n := by simp; omega
  refine ⟨_, c - lo, by rw [hlen], by omega, by omega, ?_⟩
  rcases h3 with rfl | ⟨b', o', e, hc⟩
  · exact .inl (by simp)
  · simp only [Option.some.injEq, Addr.mk.injEq, and_true] at e
    obtain ⟨rfl, rfl⟩ := e
    refine .inr ⟨b, o + lo, rfl, fun i x hx => ?_⟩
    rw [List.getElem?_take] at hx
    split at hx
    · rw [List.getElem?_drop] at hx
      rw [Nat.add_assoc]
      exact hc _ _ hx
    · cases hx

/-- '[]byte(s)' -/
theorem bytes_of_string (w : World) (s : ByteArray) (hs : s.size ≤ maxLen) :
    BytesAt (w.drew.alloc (.cells (bytesRow s (grownCap w s.size 0 5)) 5 ((bytesRow s (grownCap w s.size 0 5)).size, (bytesRow s (grownCap w s.size 0 5)).size + 1)))
      (.slice (some ⟨w.heap.size, 0, none⟩) s.size (grownCap w s.size 0 5)) s.data.toList := by
  have hl : s.data.toList.length = s.size := by rw [Array.length_toList]; rfl
  refine ⟨_, grownCap w s.size 0 5, by rw [hl], by rw [hl]; exact grownCap_ge w _ _ _, grownCap_le_maxLen w _ _ _ hs, .inr ⟨w.heap.size, 0, rfl, fun i x hx => ?_⟩⟩
  rw [cell_of_row _ w.heap.size (0 + i) _ _ _ (heap_alloc_new w.drew _)]
  have hi : i < s.data.size := by
    have := (List.getElem?_eq_some_iff.1 hx).1
    simpa using this
  rw [Nat.zero_add, bytesRow_at s _ i hi]
  have : s.data[i] = x := by
    have h2 := List.getElem?_eq_getElem (l := s.data.toList) (i := i) (by simpa using hi)
    rw [hx] at h2
    simpa using (Option.some.inj h2).symm
  rw [this]

/-- '^x' of a byte -/
theorem not_u8 (y : UInt8) : bits .xor .u8 (if IntKind.u8.signed = true then -1 else IntKind.u8.max) (y.toNat : Int) = ((255 ^^^ y).toNat : Int) := by
  have : (if IntKind.u8.signed = true then (-1 : Int) else IntKind.u8.max) = (((255 : UInt8).toNat : Nat) : Int) := by decide
  rw [this, bits_xor_u8]
theorem Own.keep {w w' : World} {base g : Nat} {v : Value} {l : List UInt8} (h : Own w base v l) (hg : w.grownBy w' (some g)) (hlt : g < base) : Own w' base v l :=
  h.grown hg (by
    cases hv : v.ownBlock with
    | none => exact .inl rfl
    | some k => right; intro e; have := (h.lt k hv).1; simp at e; omega)
end Go.Proofs.YtflbioiildndoaaGreatDoor

/- the plain law of the check sum: registers, bytes, bursts; no program in sight -/
namespace Go.Proofs.YtflbioiildndoaaGreatDoor.Crc
/-- a register -/
abbrev W := BitVec 32
def poly : W := 0xedb88320#32
/-- one step with no bit -/
def st (r : W) : W := (r >>> 1) ^^^ (if r.getLsbD 0 then poly else 0#32)
def one (b : Bool) : W := if b then 1#32 else 0#32
def stepBit (r : W) (b : Bool) : W := st (r ^^^ one b)
def itn : Nat → W → W
  | 0, r => r
  | n + 1, r => itn n (st r)
def fold (r : W) (l : List Bool) : W := l.foldl stepBit r

theorem st_xor (a b : W) : st (a ^^^ b) = st a ^^^ st b := by
  unfold st
  rw [BitVec.ushiftRight_xor_distrib, BitVec.getLsbD_xor]
  have hp : ∀ x y : W, poly ^^^ x ^^^ (poly ^^^ y) = x ^^^ y := fun x y => by
    rw [BitVec.xor_assoc, ← BitVec.xor_assoc x, BitVec.xor_comm x poly, BitVec.xor_assoc poly x, ← BitVec.xor_assoc, BitVec.xor_self, BitVec.zero_xor]
  cases a.getLsbD 0 <;> cases b.getLsbD 0
  · simp
  · simp; ac_rfl
  · simp; ac_rfl
  · simp only [Bool.bne_true, Bool.not_true, Bool.false_eq_true, if_false, if_true, BitVec.xor_zero]
    rw [BitVec.xor_comm (a >>> 1) poly, BitVec.xor_comm (b >>> 1) poly, hp]

theorem itn_xor (n : Nat) (a b : W) : itn n (a ^^^ b) = itn n a ^^^ itn n b := by
  induction n generalizing a b with
  | zero => rfl
  | succ n ih => simp only [itn]; rw [st_xor, ih]

theorem itn_succ' (n : Nat) (r : W) : itn (n + 1) r = st (itn n r) := by
  induction n generalizing r with
  | zero => rfl
  | succ n ih => rw [itn, ih]; rfl

theorem st_zero (x : W) (h : st x = 0#32) : x = 0#32 := by
  unfold st at h
  by_cases hb : x.getLsbD 0
  · rw [if_pos hb] at h
    have := congrArg (fun y : W => y.getLsbD 31) h
    simp [poly] at this
  · rw [if_neg hb] at h
    simp only [BitVec.xor_zero] at h
    apply BitVec.eq_of_getLsbD_eq
    intro i hi
    cases i with
    | zero => simpa using hb
    | succ i =>
      have := congrArg (fun y : W => y.getLsbD i) h
      simp only [BitVec.getLsbD_ushiftRight, BitVec.getLsbD_zero] at this
      rw [Nat.add_comm] at this
      simpa using this

theorem st_inj {a b : W} (h : st a = st b) : a = b := by
  have h0 : st (a ^^^ b) = 0#32 := by rw [st_xor, h, BitVec.xor_self]
  have := st_zero _ h0
  have h2 : a ^^^ b ^^^ b = 0#32 ^^^ b := by rw [this]
  simpa [BitVec.xor_assoc] using h2

theorem itn_inj {n : Nat} {a b : W} (h : itn n a = itn n b) : a = b := by
  induction n generalizing a b with
  | zero => exact h
  | succ n ih => exact st_inj (ih h)

theorem xor_cancel {a b c : W} (h : a ^^^ b = a ^^^ c) : b = c := by
  have : a ^^^ (a ^^^ b) = a ^^^ (a ^^^ c) := by rw [h]
  simpa [← BitVec.xor_assoc] using this

theorem stepBit_inj {a b : W} {x : Bool} (h : stepBit a x = stepBit b x) : a = b := by
  have := st_inj h
  rw [BitVec.xor_comm a, BitVec.xor_comm b] at this
  exact xor_cancel this

theorem fold_inj {a b : W} {l : List Bool} (h : fold a l = fold b l) : a = b := by
  induction l generalizing a b with
  | nil => exact h
  | cons x l ih => exact stepBit_inj (ih h)

theorem fold_append (r : W) (l m : List Bool) : fold r (l ++ m) = fold (fold r l) m := by simp [fold]

/-- bits as a number, the lowest first -/
def val : List Bool → W
  | [] => 0#32
  | b :: l => one b ^^^ (val l <<< 1)

theorem val_bit (l : List Bool) (i : Nat) (hi : i < 32) : (val l).getLsbD i = (l[i]?).getD false := by
  induction l generalizing i with
  | nil => simp [val]
  | cons b l ih =>
    simp only [val, BitVec.getLsbD_xor]
    cases i with
    | zero => cases b <;> simp [one]
    | succ i =>
      have h1 : (one b).getLsbD (i + 1) = false := by cases b <;> simp [one]
      rw [h1, BitVec.getLsbD_shiftLeft]
      simp [hi, ih i (by omega)]

theorem st_shl (v : W) (h : v.getLsbD 31 = false) : st (v <<< 1) = v := by
  unfold st
  have h0 : (v <<< 1).getLsbD 0 = false := by simp
  rw [h0]
  simp only [Bool.false_eq_true, if_false, BitVec.xor_zero]
  apply BitVec.eq_of_getLsbD_eq
  intro i hi
  rw [BitVec.getLsbD_ushiftRight, BitVec.getLsbD_shiftLeft]
  by_cases h31 : i = 31
  · subst h31; rw [h]; decide
  · have : 1 + i < 32 := by omega
    simp [this]

/-- at most 32 bits, put in one by one, are put in at once -/
theorem fold_val (r : W) (l : List Bool) (h : l.length ≤ 32) : fold r l = itn l.length (r ^^^ val l) := by
  induction l generalizing r with
  | nil => simp [fold, itn, val]
  | cons b l ih =>
    simp only [List.length_cons] at h
    show fold (stepBit r b) l = itn l.length (st (r ^^^ val (b :: l)))
    rw [ih _ (by omega)]
    have hv : (val l).getLsbD 31 = false := by
      rw [val_bit _ _ (by omega), List.getElem?_eq_none (by omega)]; rfl
    congr 1
    simp only [val, stepBit]
    rw [← BitVec.xor_assoc, st_xor (r ^^^ one b), st_shl _ hv]

theorem val_inj {l m : List Bool} (hl : l.length = m.length) (h32 : l.length ≤ 32) (h : val l = val m) : l = m := by
  apply List.ext_getElem hl
  intro i h1 h2
  have := congrArg (fun v : W => v.getLsbD i) h
  simp only [val_bit _ _ (show i < 32 by omega)] at this
  simpa [List.getElem?_eq_getElem h1, List.getElem?_eq_getElem h2] using this

theorem fold_window {r : W} {l m : List Bool} (hl : l.length = m.length) (h32 : l.length ≤ 32) (h : fold r l = fold r m) : l = m := by
  rw [fold_val _ _ h32, fold_val _ _ (by omega), hl] at h
  exact val_inj hl h32 (xor_cancel (itn_inj h))

/-- two texts of bits that differ within 32 bits in a row alone, and come to one register, are one -/
theorem fold_burst {r : W} {p q : List Bool} (s : Nat) (hl : p.length = q.length) (hd : ∀ j, j < s ∨ s + 32 ≤ j → p[j]? = q[j]?) (h : fold r p = fold r q) : p = q := by
  have hp : p = p.take s ++ ((p.drop s).take 32 ++ (p.drop s).drop 32) := by rw [List.take_append_drop, List.take_append_drop]
  have hq : q = q.take s ++ ((q.drop s).take 32 ++ (q.drop s).drop 32) := by rw [List.take_append_drop, List.take_append_drop]
  have h1 : p.take s = q.take s := by
    apply List.ext_getElem?
    intro j
    rw [List.getElem?_take, List.getElem?_take]
    split
    · exact hd j (by omega)
    · rfl
  have h3 : (p.drop s).drop 32 = (q.drop s).drop 32 := by
    apply List.ext_getElem?
    intro j
    simp only [List.getElem?_drop]
    exact hd _ (by omega)
  rw [hp, hq, h1, h3, fold_append, fold_append, fold_append, fold_append] at h
  have h2 := fold_window (by simp [hl]) (by simp; omega) (fold_inj h)
  rw [hp, hq, h1, h2, h3]

/-- a byte's bits, the lowest first -/
def byteBits (x : UInt8) : List Bool := (List.range 8).map x.toBitVec.getLsbD
def bitsOf (l : List UInt8) : List Bool := l.flatMap byteBits
theorem byteBits_length (x : UInt8) : (byteBits x).length = 8 := by simp [byteBits]
theorem byteBits_get (x : UInt8) (i : Nat) (h : i < 8) : (byteBits x)[i]? = some (x.toBitVec.getLsbD i) := by simp [byteBits, h]
theorem bitsOf_length (l : List UInt8) : (bitsOf l).length = 8 * l.length := by
  induction l with
  | nil => rfl
  | cons x l ih => simp only [bitsOf, List.flatMap_cons, List.length_append, byteBits_length, List.length_cons] at *; omega
theorem bitsOf_append (l m : List UInt8) : bitsOf (l ++ m) = bitsOf l ++ bitsOf m := by simp [bitsOf]
theorem bitsOf_get (l : List UInt8) (j : Nat) : (bitsOf l)[j]? = (l[j / 8]?).map fun x => x.toBitVec.getLsbD (j % 8) := by
  induction l generalizing j with
  | nil => simp [bitsOf]
  | cons x l ih =>
    have e : bitsOf (x :: l) = byteBits x ++ bitsOf l := rfl
    rw [e]
    by_cases h : j < 8
    · rw [List.getElem?_append_left (by rw [byteBits_length]; exact h), byteBits_get _ _ h, Nat.div_eq_of_lt h, Nat.mod_eq_of_lt h]; rfl
    · rw [List.getElem?_append_right (by rw [byteBits_length]; omega), byteBits_length, ih]
      have h1 : j / 8 = (j - 8) / 8 + 1 := by omega
      have h2 : j % 8 = (j - 8) % 8 := by omega
      rw [h1, h2]; rfl
theorem bitsOf_inj {l m : List UInt8} (h : bitsOf l = bitsOf m) : l = m := by
  have hl : l.length = m.length := by have := congrArg List.length h; rw [bitsOf_length, bitsOf_length] at this; omega
  apply List.ext_getElem hl
  intro i h1 h2
  apply UInt8.toBitVec_inj.1
  apply BitVec.eq_of_getLsbD_eq
  intro k hk
  have := congrArg (fun z : List Bool => z[8 * i + k]?) h
  simp only [bitsOf_get] at this
  have e1 : (8 * i + k) / 8 = i := by omega
  have e2 : (8 * i + k) % 8 = k := by omega
  rw [e1, e2, List.getElem?_eq_getElem h1, List.getElem?_eq_getElem h2] at this
  simpa using this

/-! ### bytes -/
def entry (n : UInt8) : W := itn 8 (n.toBitVec.setWidth 32)
/-- the register behind a byte -/
def upd (r : W) (x : UInt8) : W := (r >>> 8) ^^^ entry (UInt8.ofBitVec (r.setWidth 8) ^^^ x)
def run (r : W) (l : List UInt8) : W := l.foldl upd r
def more (s : W) (l : List UInt8) : W := ~~~(run (~~~s) l)
def sum (l : List UInt8) : W := more 0#32 l

theorem itn8_high (r : W) : itn 8 ((r >>> 8) <<< 8) = r >>> 8 := by
  have e : (r >>> 8) <<< 8 = ((((((((r >>> 8) <<< 1) <<< 1) <<< 1) <<< 1) <<< 1) <<< 1) <<< 1) <<< 1 := by
    simp only [← BitVec.shiftLeft_add]
  rw [e]
  simp only [itn]
  repeat rw [st_shl _ (by simp)]

theorem val_byte (x : UInt8) : val (byteBits x) = x.toBitVec.setWidth 32 := by
  apply BitVec.eq_of_getLsbD_eq
  intro i hi
  rw [val_bit _ _ hi, BitVec.getLsbD_setWidth]
  by_cases h : i < 8
  · rw [byteBits_get _ _ h]; simp [hi]
  · rw [List.getElem?_eq_none (by rw [byteBits_length]; omega)]
    rw [BitVec.getLsbD_of_ge _ _ (by omega)]; simp

theorem split8 (r : W) : r = ((r >>> 8) <<< 8) ^^^ (r.setWidth 8).setWidth 32 := by
  apply BitVec.eq_of_getLsbD_eq
  intro i hi
  rw [BitVec.getLsbD_xor, BitVec.getLsbD_shiftLeft, BitVec.getLsbD_ushiftRight, BitVec.getLsbD_setWidth, BitVec.getLsbD_setWidth]
  by_cases h : i < 8
  · simp [h, hi]
  · simp [h, hi]
    congr 1; omega

theorem fold_byte (r : W) (x : UInt8) : fold r (byteBits x) = upd r x := by
  rw [fold_val _ _ (by rw [byteBits_length]; omega), byteBits_length, val_byte]
  unfold upd entry
  conv => lhs; rw [split8 r]
  rw [BitVec.xor_assoc, itn_xor, itn8_high]
  rw [UInt8.toBitVec_xor, BitVec.setWidth_xor]

theorem fold_bits (r : W) (l : List UInt8) : fold r (bitsOf l) = run r l := by
  induction l generalizing r with
  | nil => rfl
  | cons x l ih =>
    have e : bitsOf (x :: l) = byteBits x ++ bitsOf l := rfl
    rw [e, fold_append, fold_byte, ih]; rfl

theorem run_append (r : W) (l m : List UInt8) : run r (l ++ m) = run (run r l) m := by simp [run]
theorem more_append (s : W) (l m : List UInt8) : more s (l ++ m) = more (more s l) m := by simp [more, run_append]
theorem sum_append (l m : List UInt8) : sum (l ++ m) = more (sum l) m := more_append _ _ _

/-- P2.3 -/
theorem sum_burst {p q : List UInt8} (s : Nat) (hl : p.length = q.length) (hd : ∀ j, j < s ∨ s + 32 ≤ j → (bitsOf p)[j]? = (bitsOf q)[j]?) (h : sum p = sum q) : p = q := by
  unfold sum more at h
  have h' := BitVec.not_inj.1 h
  rw [← fold_bits, ← fold_bits] at h'
  exact bitsOf_inj (fold_burst s (by rw [bitsOf_length, bitsOf_length, hl]) hd h')

/-- P2.4 -/
theorem run_xor (a b : W) (l m : List UInt8) (h : l.length = m.length) : run (a ^^^ b) (List.zipWith (· ^^^ ·) l m) = run a l ^^^ run b m := by
  induction l generalizing a b m with
  | nil => cases m with | nil => rfl | cons _ _ => simp at h
  | cons x l ih =>
    cases m with
    | nil => simp at h
    | cons y m =>
      have e : upd (a ^^^ b) (x ^^^ y) = upd a x ^^^ upd b y := by
        unfold upd entry
        rw [BitVec.ushiftRight_xor_distrib]
        have : (UInt8.ofBitVec ((a ^^^ b).setWidth 8) ^^^ (x ^^^ y)).toBitVec.setWidth 32 = (UInt8.ofBitVec (a.setWidth 8) ^^^ x).toBitVec.setWidth 32 ^^^ (UInt8.ofBitVec (b.setWidth 8) ^^^ y).toBitVec.setWidth 32 := by
          apply BitVec.eq_of_getLsbD_eq
          intro i hi
          simp [BitVec.getLsbD_setWidth]
          by_cases h8 : i < 8 <;> simp only [h8, hi, decide_true, decide_false, Bool.true_and, Bool.false_and] <;>
            cases a.getLsbD i <;> cases b.getLsbD i <;> cases x.toBitVec.getLsbD i <;> cases y.toBitVec.getLsbD i <;> rfl
        rw [this, itn_xor]
        ac_rfl
      simp only [List.zipWith_cons_cons, run, List.foldl_cons] at ih ⊢
      rw [e]
      exact ih _ _ m (by simpa using h)

theorem sum_three (l m n : List UInt8) (h1 : l.length = m.length) (h2 : l.length = n.length) :
    sum l ^^^ sum m ^^^ sum n = sum (List.zipWith (· ^^^ ·) (List.zipWith (· ^^^ ·) l m) n) := by
  unfold sum more
  have e : (~~~0#32 : W) = (~~~0#32 ^^^ ~~~0#32) ^^^ ~~~0#32 := by decide
  conv => rhs; rw [e]
  rw [run_xor _ _ _ _ (by simp; omega), run_xor _ _ _ _ h1]
  apply BitVec.eq_of_getLsbD_eq
  intro i hi
  simp [hi]

end Go.Proofs.YtflbioiildndoaaGreatDoor.Crc

/- the document's burst (Changed): the plain law and the walk -/
namespace Go.Proofs.YtflbioiildndoaaGreatDoor
open Go.RowKit

/-! ### the plain law -/
/-- a bit of bytes is turned -/
def flip (l : List UInt8) (n : Nat) : List UInt8 := if n / 8 < l.length then l.set (n / 8) (l.getD (n / 8) 0 ^^^ UInt8.ofNat (2 ^ (n % 8))) else l
/-- the first k bits of a mask are turned, from a bit on -/
def changed (l : List UInt8) (bit : Nat) (mask : BitVec 32) : Nat → List UInt8
  | 0 => l
  | k + 1 => if mask.getLsbD k then flip (changed l bit mask k) (bit + k) else changed l bit mask k
theorem flip_length (l : List UInt8) (n : Nat) : (flip l n).length = l.length := by unfold flip; split <;> simp
theorem changed_length (l : List UInt8) (bit : Nat) (mask : BitVec 32) (k : Nat) : (changed l bit mask k).length = l.length := by
  induction k with
  | zero => rfl
  | succ k ih => simp only [changed]; split <;> simp [flip_length, ih]
theorem pow_bit (n j : Nat) (hn : n < 8) (hj : j < 8) : (UInt8.ofNat (2 ^ n)).toBitVec.getLsbD j = decide (n = j) := by
  have : ∀ n, n < 8 → ∀ j, j < 8 → (UInt8.ofNat (2 ^ n)).toBitVec.getLsbD j = decide (n = j) := by decide
  exact this n hn j hj
theorem flip_bits (l : List UInt8) (n j : Nat) : (Crc.bitsOf (flip l n))[j]? = if j = n then ((Crc.bitsOf l)[j]?).map (! ·) else (Crc.bitsOf l)[j]? := by
  rw [Crc.bitsOf_get, Crc.bitsOf_get]
  unfold flip
  by_cases hlt : n / 8 < l.length
  · rw [if_pos hlt, List.getElem?_set]
    by_cases he : n / 8 = j / 8
    · rw [if_pos he, if_pos hlt]
      have hj : l[j / 8]? = some (l.getD (n / 8) 0) := by rw [← he, List.getElem?_eq_getElem hlt]; simp [List.getD, List.getElem?_eq_getElem hlt]
      rw [hj]
      simp only [Option.map_some]
      rw [UInt8.toBitVec_xor, BitVec.getLsbD_xor, pow_bit _ _ (by omega) (by omega)]
      by_cases hjn : j = n
      · subst hjn; simp
      · have : n % 8 ≠ j % 8 := by omega
        simp [hjn, this]
    · rw [if_neg he, if_neg (by omega)]
  · rw [if_neg hlt]
    split
    · rename_i hjn; subst hjn
      rw [List.getElem?_eq_none (by omega)]; rfl
    · rfl
theorem changed_bits (l : List UInt8) (bit : Nat) (mask : BitVec 32) (k j : Nat) (h : j < bit ∨ bit + k ≤ j) : (Crc.bitsOf (changed l bit mask k))[j]? = (Crc.bitsOf l)[j]? := by
  induction k with
  | zero => rfl
  | succ k ih =>
    simp only [changed]
    split
    · rw [flip_bits, if_neg (by omega)]; exact ih (by omega)
    · exact ih (by omega)
/-- P2.3 -/
theorem changed_sum (l : List UInt8) (bit : Nat) (mask : BitVec 32) (h : Crc.sum l = Crc.sum (changed l bit mask 32)) : l = changed l bit mask 32 :=
  Crc.sum_burst bit (changed_length _ _ _ _).symm (fun j hj => (changed_bits l bit mask 32 j hj).symm) h

/-! ### the walk -/
/-- a mask's bits that are still to come, as a number -/
def maskRest (x : BitVec 32) (k : Nat) : Int := ((x.toNat / 2 ^ k : Nat) : Int)
theorem maskRest_bd (x : BitVec 32) (k : Nat) : 0 ≤ maskRest x k ∧ maskRest x k ≤ 4294967295 := by
  have h1 := Nat.div_le_self x.toNat (2 ^ k)
  have h2 := x.isLt
  unfold maskRest
  generalize x.toNat / 2 ^ k = n at *
  omega
theorem maskRest_zero (x : BitVec 32) : maskRest x 0 = (x.toNat : Int) := by simp [maskRest]
theorem maskRest_bit (x : BitVec 32) (k : Nat) : (maskRest x k % 2 == 1) = x.getLsbD k := by
  have : x.getLsbD k = decide (x.toNat / 2 ^ k % 2 = 1) := by rw [BitVec.getLsbD, Nat.testBit_eq_decide_div_mod_eq]
  rw [this]
  unfold maskRest
  generalize x.toNat / 2 ^ k = n
  rw [Bool.eq_iff_iff]
  simp
  omega
theorem maskRest_next (x : BitVec 32) (k : Nat) : maskRest x k / 2 = maskRest x (k + 1) := by
  unfold maskRest
  rw [Nat.pow_succ, ← Nat.div_div_eq_div_mul]; omega

theorem pow_u8 (n : Nat) : ((2 : Int) ^ n % 256) = ((UInt8.ofNat (2 ^ n)).toNat : Int) := by
  rw [UInt8.toNat_ofNat']
  simp
theorem flip_spell (x : UInt8) (n : Nat) : bits .xor .u8 (x.toNat : Int) ((2 : Int) ^ n % 256) = ((x ^^^ UInt8.ofNat (2 ^ n)).toNat : Int) := by
  rw [pow_u8, bits_xor_u8]
theorem changed_hit {l c : List UInt8} {bit k n : Nat} {mask : BitVec 32} {x : UInt8} (hc : changed l bit mask k = c) (hm : mask.getLsbD k = true) (hn : (bit + k) / 8 = n) (hx : c[n]? = some x) :
    c.set n (x ^^^ UInt8.ofNat (2 ^ ((bit + k) % 8))) = changed l bit mask (k + 1) := by
  have hlt : n < c.length := (List.getElem?_eq_some_iff.1 hx).1
  simp only [changed, hm, if_true, hc, flip, hn, hlt, List.getD, hx, Option.getD_some]
theorem changed_out {l c : List UInt8} {bit k : Nat} {mask : BitVec 32} (hc : changed l bit mask k = c) (h : ¬ (bit + k) / 8 < c.length) : c = changed l bit mask (k + 1) := by
  simp only [changed]
  rw [hc]
  unfold flip
  rw [if_neg h]
  simp
theorem changed_miss {l c : List UInt8} {bit k : Nat} {mask : BitVec 32} (hc : changed l bit mask k = c) (hm : mask.getLsbD k = false) : c = changed l bit mask (k + 1) := by
  simp only [changed]
  rw [hm, hc]
  simp

end Go.Proofs.YtflbioiildndoaaGreatDoor
