/- slices of ints: what one reads as; those that the call itself owns (printed by wip/tools/ints.py from the laws of bytes) -/
import Derived.Test.YtflbioiildndoaaGreatDoorQ2
namespace Go.Proofs.YtflbioiildndoaaGreatDoor
open Go.RowKit

/-- v is a slice of bytes that reads as l in w -/
def IntsAt (w : World) (v : Value) (l : List Int) : Prop :=
  ∃ a c, v = .slice a l.length c ∧ l.length ≤ c ∧ c ≤ maxLen ∧
    (l = [] ∨ ∃ b o, a = some ⟨b, o, none⟩ ∧ ∀ i x, l[i]? = some x → w.cell? ⟨b, o + i, none⟩ = some (.int .i64 x))

theorem IntsAt.nil (w : World) : IntsAt w (.slice none 0 0) [] := ⟨none, 0, rfl, Nat.le_refl _, Nat.zero_le _, .inl rfl⟩

/-- what reads as bytes does so where the blocks below B are as they were -/
theorem IntsAt.below {w w' : World} {v : Value} {l : List Int} (h : IntsAt w v l) (hb : Below w.heap.size w w') : IntsAt w' v l := by
  obtain ⟨a, c, rfl, h1, h2, h3⟩ := h
  refine ⟨a, c, rfl, h1, h2, h3.imp id ?_⟩
  rintro ⟨b, o, rfl, hc⟩
  refine ⟨b, o, rfl, fun i x hx => ?_⟩
  have := hc i x hx
  rw [hb.cell (World.block_lt_of_cell? w _ this)]
  exact this

theorem IntsAt.take {w : World} {a : Option Addr} {n c k : Nat} {l : List Int} (h : IntsAt w (.slice a n c) l) (hk : k ≤ l.length) : IntsAt w (.slice a k c) (l.take k) := by
  obtain ⟨a', c', e, h1, h2, h3⟩ := h
  simp only [Value.slice.injEq] at e
  obtain ⟨rfl, rfl, rfl⟩ := e
  refine ⟨a, c, by rw [List.length_take, Nat.min_eq_left hk], by rw [List.length_take]; omega, h2, ?_⟩
  rcases h3 with rfl | ⟨b, o, rfl, hc⟩
  · exact .inl (by simp)
  · refine .inr ⟨b, o, rfl, fun i x hx => hc i x ?_⟩
    rw [List.getElem?_take] at hx
    split at hx
    · exact hx
    · cases hx

/-! ### bytes -/
theorem Tryz.infoInt : (Tryz.prog.info? 3).map (fun i => (i.zero, i.size, i.bytes)) = some (some (.int .i64 0), 1, 8) := by kernel_rfl
def intsV (l : List Int) : List Value := l.map fun x => Value.int .i64 x
theorem intsV_length (l : List Int) : (intsV l).length = l.length := by simp [intsV]
theorem intsV_append (l m : List Int) : intsV (l ++ m) = intsV l ++ intsV m := by simp [intsV]
/-- v is a slice of bytes in memory that was made from block 'base' on; it reads as l -/
def OwnI (w : World) (base : Nat) (v : Value) (l : List Int) : Prop := w.ownsRow base 3 1 v l.length (intsV l)

theorem OwnI.nil (w : World) (base : Nat) : OwnI w base (.slice none 0 0) [] := World.ownsRow_nil w base _ _
theorem OwnI.ints {w : World} {base : Nat} {v : Value} {l : List Int} (h : OwnI w base v l) : IntsAt w v l := by
  rcases h.2 with ⟨rfl, h0⟩ | ⟨g, cap, cur, rfl, hb, hg, hnc, hcm, hcs, htake⟩
  · obtain rfl : l = [] := List.eq_nil_of_length_eq_zero h0
    exact IntsAt.nil w
  · refine ⟨_, cap, rfl, hnc, hcm, .inr ⟨g, 0, rfl, fun i x hx => ?_⟩⟩
    have hlt : i < l.length := (List.getElem?_eq_some_iff.1 hx).1
    have := World.ownsRow.cellAt h i (by omega)
    rw [Nat.zero_add, this]
    simp [intsV, hx]
theorem OwnI.mono {w : World} {base b2 : Nat} {v : Value} {l : List Int} (h : OwnI w base v l) (hb : b2 ≤ base) : OwnI w b2 v l := by
  refine ⟨h.1, h.2.imp id ?_⟩
  rintro ⟨g, cap, cur, h1, h2, r⟩
  exact ⟨g, cap, cur, h1, by omega, r⟩
theorem OwnI.below {w w' : World} {base B : Nat} {v : Value} {l : List Int} (h : OwnI w base v l) (hb : Below B w w') (hB : w.heap.size ≤ B) : OwnI w' base v l := by
  refine ⟨h.1, h.2.imp id ?_⟩
  rintro ⟨g, cap, cur, h1, h2, hg, r⟩
  have := (Array.getElem?_eq_some_iff.1 hg).1
  exact ⟨g, cap, cur, h1, h2, by rw [hb.block g (by omega)]; exact hg, r⟩
theorem OwnI.grown {w w' : World} {base : Nat} {v : Value} {l : List Int} {row : Option Nat} (h : OwnI w base v l) (hg : w.grownBy w' row) (hne : v.ownBlock = none ∨ v.ownBlock ≠ row) : OwnI w' base v l := World.ownsRow.kept h hg hne
theorem OwnI.lt {w : World} {base : Nat} {v : Value} {l : List Int} (h : OwnI w base v l) : ∀ k, v.ownBlock = some k → base ≤ k ∧ k < w.heap.size := World.ownsRow.lt h

/-- '[]byte{}' -/
theorem OwnI.empty (w : World) (base : Nat) (h : base ≤ w.heap.size) : OwnI (w.alloc (.cells #[] 3)) base (.slice (some ⟨w.heap.size, 0, none⟩) 0 0) [] :=
  ⟨rfl, .inr ⟨w.heap.size, 0, #[], rfl, h, heap_alloc_new w _, Nat.le_refl _, Nat.zero_le _, rfl, rfl⟩⟩
theorem IntsAt.alloc {w : World} {v : Value} {l : List Int} (h : IntsAt w v l) (o : Obj) : IntsAt (w.alloc o) v l := h.below ((Below.refl _ _).alloc (Nat.le_refl _) o)
theorem OwnI.alloc {w : World} {base : Nat} {v : Value} {l : List Int} (h : OwnI w base v l) (o : Obj) : OwnI (w.alloc o) base v l := World.ownsRow.alloc h o
/-- what is owned is nil and empty, or a row -/
theorem OwnI.row {w : World} {base : Nat} {v : Value} {l : List Int} (h : OwnI w base v l) : (v = .slice none 0 0 ∧ l = []) ∨ ∃ g cap, v = .slice (some ⟨g, 0, none⟩) l.length cap ∧ base ≤ g ∧ g < w.heap.size ∧ l.length ≤ cap ∧ cap ≤ maxLen := by
  rcases h.2 with ⟨rfl, h0⟩ | ⟨g, cap, cur, rfl, hb, hg, hnc, hcm, hcs, htake⟩
  · exact .inl ⟨rfl, List.eq_nil_of_length_eq_zero h0⟩
  · exact .inr ⟨g, cap, rfl, hb, (Array.getElem?_eq_some_iff.1 hg).1, hnc, hcm⟩
theorem OwnI.cell {w : World} {base g n cap : Nat} {l : List Int} (h : OwnI w base (.slice (some ⟨g, 0, none⟩) n cap) l) (hn : n = l.length) {k : Nat} {x : Int} (hx : l[k]? = some x) : w.cell? ⟨g, k, none⟩ = some (.int .i64 x) := by
  subst hn
  have hlt : k < l.length := (List.getElem?_eq_some_iff.1 hx).1
  rw [World.ownsRow.cellAt h k (by omega)]
  simp [intsV, hx]
theorem OwnI.free {w : World} {base g n cap : Nat} {l : List Int} (h : OwnI w base (.slice (some ⟨g, 0, none⟩) n cap) l) (hn : n = l.length) (k : Nat) : w.frozen? ⟨g, k, none⟩ = false := by
  subst hn
  exact World.ownsRow.frozenAt h k
theorem OwnI.set {w : World} {base g n cap : Nat} {l : List Int} (h : OwnI w base (.slice (some ⟨g, 0, none⟩) n cap) l) (hn : n = l.length) (k : Nat) (x : Int) :
    OwnI (w.setCell ⟨g, k, none⟩ (.int .i64 x)) base (.slice (some ⟨g, 0, none⟩) n cap) (l.set k x) := by
  subst hn
  have := (World.ownsRow.stored h k (.int .i64 x)).1
  unfold OwnI
  rw [List.length_set]
  have e : (intsV l).set k (.int .i64 x) = intsV (l.set k x) := by simp [intsV, List.map_set]
  rw [← e]
  exact this

theorem OwnI.slice {w : World} {base : Nat} {v : Value} {l : List Int} (h : OwnI w base v l) : ∃ a c, v = .slice a l.length c ∧ l.length ≤ c ∧ c ≤ maxLen := by
  obtain ⟨a, c, rfl, h1, h2, _⟩ := h.ints
  exact ⟨a, c, rfl, h1, h2⟩
theorem IntsAt.src {w : World} {v : Value} {l : List Int} (h : IntsAt w v l) : Src Tryz.prog 1 61 v l.length (intsV l) w := by
  obtain ⟨a, c, rfl, hlc, _, hl⟩ := h
  rcases hl with rfl | ⟨b, o, rfl, hc⟩
  · cases a with
    | none => exact Src.ofNil w Tryz.underlying61 c
    | some a => exact Src.ofSlice w Tryz.underlying61 a 0 c [] rfl (fun j u hj => by simp at hj) (fun _ h => by cases h)
  · refine Src.ofSlice w Tryz.underlying61 ⟨b, o, none⟩ l.length c _ (by simp [intsV]) (fun j u hj => ?_) (fun u hu => ?_)
    · simp only [intsV, List.getElem?_map, Option.map_eq_some_iff] at hj
      obtain ⟨x, hx, rfl⟩ := hj
      have : (⟨b, o, none⟩ : Addr).add j = ⟨b, o + j, none⟩ := by unfold Addr.add; split <;> simp_all
      rw [this]
      exact hc j x hx
    · obtain ⟨_, _, rfl⟩ := List.mem_map.1 hu
      rfl

/-- append of whatever yields bytes, onto bytes of the call's own -/
theorem wpList_append_anyI {ops : Array Oper} {rest : List Oper} {o : Oper} {a : Act} {Q : Exit → Act → World → Prop} {w : World} (hgd : o.guard = none) (s x : Operand) (tx : TypeId)
    (ho : o.op = .call { callee := .builtin .append, args := #[s, x], argTypes := #[61, tx] }) (base : Nat)
    (v : Value) (l : List Int) (hs : a.eval s = v) (hown : OwnI w base v l)
    (X : Value) (m : List Int) (hx : a.eval x = X) (hsrc : Src Tryz.prog 1 tx X m.length (intsV m) w)
    (hb : l.length + m.length ≤ 17592186044416) (hbase : base ≤ w.heap.size)
    (h : ∀ v' w', OwnI w' base v' (l ++ m) → w.grownBy w' v.ownBlock → (v' = .slice none 0 0 ↔ v = .slice none 0 0 ∧ m.length = 0) → wpList Tryz.prog ops Q rest (a.put o.dst v') w') : wpList Tryz.prog ops Q (o :: rest) a w := by
  obtain ⟨i, hi, hz, hs1, hb1⟩ := info_parts Tryz.infoInt
  refine wpList_append_src (P := Tryz.prog) w hgd s x 61 tx ho base 3 i _ 1 8 Tryz.underlying61 hi hz hs1 hb1 rfl v l.length (intsV l) hs hown X m.length (intsV m) hx hsrc (by unfold maxLen; omega) (by omega) hbase ?_
  intro v' w' h1 h2 h3
  refine h v' w' ?_ h2 h3
  unfold OwnI
  rw [intsV_append, List.length_append]
  exact h1
theorem wpList_append_ints {ops : Array Oper} {rest : List Oper} {o : Oper} {a : Act} {Q : Exit → Act → World → Prop} {w : World} (hgd : o.guard = none) (s x : Operand)
    (ho : o.op = .call { callee := .builtin .append, args := #[s, x], argTypes := #[61, 61] }) (base : Nat)
    (v : Value) (l : List Int) (hs : a.eval s = v) (hown : OwnI w base v l)
    (X : Value) (m : List Int) (hx : a.eval x = X) (hsrc : IntsAt w X m)
    (hb : l.length + m.length ≤ 17592186044416) (hbase : base ≤ w.heap.size)
    (h : ∀ v' w', OwnI w' base v' (l ++ m) → w.grownBy w' v.ownBlock → (v' = .slice none 0 0 ↔ v = .slice none 0 0 ∧ m.length = 0) → wpList Tryz.prog ops Q rest (a.put o.dst v') w') : wpList Tryz.prog ops Q (o :: rest) a w :=
  wpList_append_anyI hgd s x _ ho base v l hs hown X m hx hsrc.src hb hbase h

/-- make of bytes -/
theorem wpList_make_ints {ops : Array Oper} {rest : List Oper} {o : Oper} {a : Act} {Q : Exit → Act → World → Prop} {w : World} (hg : o.guard = none) (l c : Operand) (hop : o.op = Op.makeSlice 61 l c)
    (n : Nat) (L C : Int) (hl : a.eval l = .int .i64 L) (hc : a.eval c = .int .i64 C) (hL : L = (n : Int)) (hC : C = (n : Int)) (hb : n ≤ 17592186044416)
    (hK : ∀ w', OwnI w' w.heap.size (.slice (some ⟨w.heap.size, 0, none⟩) n n) (List.replicate n 0) → w.grownBy w' none → wpList Tryz.prog ops Q rest (a.put o.dst (.slice (some ⟨w.heap.size, 0, none⟩) n n)) w') :
    wpList Tryz.prog ops Q (o :: rest) a w := by
  obtain ⟨i0, hi, hz0, hz1, hz2⟩ := info_parts Tryz.infoInt
  refine wpList_make_full w hg l c 61 hop w.heap.size 3 i0 (.int .i64 0) 1 Tryz.underlying61 hi hz0 hz1 .i64 .i64 L C n hl hc hL hC (by rw [hz2]; omega) (by unfold maxLen; omega) (Nat.le_refl _) ?_
  intro w1 h1 h2
  refine hK w1 ?_ h2
  unfold OwnI
  have e : (madeCells (Value.cells (.int .i64 0)) (n * 1)).toList = intsV (List.replicate n 0) := by
    show (madeCells #[Value.int .i64 0] (n * 1)).toList = _
    rw [toList_madeCells_one]
    simp [intsV]
  rw [e] at h1
  rw [List.length_replicate]
  exact h1

/-- 'b[lo:hi]', lo behind b's beginning -/
theorem IntsAt.cut {w : World} {b o len c : Nat} {l : List Int} (h : IntsAt w (.slice (some ⟨b, o, none⟩) len c) l) (lo n : Nat) (hn : lo + n ≤ l.length) :
    IntsAt w (.slice (some ⟨b, o + lo, none⟩) n (c - lo)) ((l.drop lo).take n) := by
  obtain ⟨a', c', e, h1, h2, h3⟩ := h
  simp only [Value.slice.injEq] at e
  obtain ⟨rfl, rfl, rfl⟩ := e
  have hlen : ((l.drop lo).take n).length = n := by simp; omega
  refine ⟨_, c - lo, by rw [hlen], by omega, by omega, ?_⟩
  rcases h3 with rfl | ⟨b', o', e, hc⟩
  · exact .inl (by simp)
  · simp only [Option.some.injEq, Addr.mk.injEq, and_true] at e
    obtain ⟨rfl, rfl⟩ := e
    refine .inr ⟨b, o + lo, rfl, fun i x hx => ?_⟩
    rw [List.getElem?_take] at hx
    split at hx
    · rw [List.getElem?_drop] at hx
      rw [Nat.add_assoc]
      exact hc _ _ hx
    · cases hx
theorem OwnI.keep {w w' : World} {base g : Nat} {v : Value} {l : List Int} (h : OwnI w base v l) (hg : w.grownBy w' (some g)) (hlt : g < base) : OwnI w' base v l :=
  h.grown hg (by
    cases hv : v.ownBlock with
    | none => exact .inl rfl
    | some k => right; intro e; have := (h.lt k hv).1; simp at e; omega)
/-- an int in a block of its own -/
theorem one_int (w : World) (z : Int) (t : TypeId) : IntsAt (w.alloc (.cells #[.int .i64 z] t)) (.slice (some ⟨w.heap.size, 0, none⟩) 1 1) [z] := by
  refine ⟨_, 1, rfl, by simp, by unfold maxLen; omega, .inr ⟨w.heap.size, 0, rfl, fun i y hy => ?_⟩⟩
  have : i = 0 := by
    have := (List.getElem?_eq_some_iff.1 hy).1
    simp at this; omega
  subst this
  simp at hy
  subst hy
  exact cell_of_row _ w.heap.size 0 _ t (0, 0) (heap_alloc_new w _)
end Go.Proofs.YtflbioiildndoaaGreatDoor
