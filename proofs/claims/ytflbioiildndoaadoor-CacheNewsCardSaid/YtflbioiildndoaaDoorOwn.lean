/- slices of bytes that the call itself owns -/
import Derived.Test.YtflbioiildndoaaDoorAppend
namespace Go.Proofs.YtflbioiildndoaaDoor
open Go.RowKit

/-! ### bytes -/
theorem Tryd.infoByte : (Tryd.prog.info? 5).map (fun i => (i.zero, i.size, i.bytes)) = some (some (.int .u8 0), 1, 1) := by kernel_rfl
def bytesV (l : List UInt8) : List Value := l.map fun x => Value.int .u8 (x.toNat : Int)
theorem bytesV_length (l : List UInt8) : (bytesV l).length = l.length := by simp [bytesV]
theorem bytesV_append (l m : List UInt8) : bytesV (l ++ m) = bytesV l ++ bytesV m := by simp [bytesV]
/-- v is a slice of bytes in memory that was made from block 'base' on; it reads as l -/
def Own (w : World) (base : Nat) (v : Value) (l : List UInt8) : Prop := w.ownsRow base 5 1 v l.length (bytesV l)

theorem Own.nil (w : World) (base : Nat) : Own w base (.slice none 0 0) [] := World.ownsRow_nil w base _ _
theorem Own.bytes {w : World} {base : Nat} {v : Value} {l : List UInt8} (h : Own w base v l) : BytesAt w v l := by
  rcases h.2 with ⟨rfl, h0⟩ | ⟨g, cap, cur, rfl, hb, hg, hnc, hcm, hcs, htake⟩
  · obtain rfl : l = [] := List.eq_nil_of_length_eq_zero h0
    exact BytesAt.nil w
  · refine ⟨_, cap, rfl, hnc, hcm, .inr ⟨g, 0, rfl, fun i x hx => ?_⟩⟩
    have hlt : i < l.length := (List.getElem?_eq_some_iff.1 hx).1
    have := World.ownsRow.cellAt h i (by omega)
    rw [Nat.zero_add, this]
    simp [bytesV, hx]
theorem Own.mono {w : World} {base b2 : Nat} {v : Value} {l : List UInt8} (h : Own w base v l) (hb : b2 ≤ base) : Own w b2 v l := by
  refine ⟨h.1, h.2.imp id ?_⟩
  rintro ⟨g, cap, cur, h1, h2, r⟩
  exact ⟨g, cap, cur, h1, by omega, r⟩
theorem Own.below {w w' : World} {base B : Nat} {v : Value} {l : List UInt8} (h : Own w base v l) (hb : Below B w w') (hB : w.heap.size ≤ B) : Own w' base v l := by
  refine ⟨h.1, h.2.imp id ?_⟩
  rintro ⟨g, cap, cur, h1, h2, hg, r⟩
  have := (Array.getElem?_eq_some_iff.1 hg).1
  exact ⟨g, cap, cur, h1, h2, by rw [hb.block g (by omega)]; exact hg, r⟩
theorem Own.grown {w w' : World} {base : Nat} {v : Value} {l : List UInt8} {row : Option Nat} (h : Own w base v l) (hg : w.grownBy w' row) (hne : v.ownBlock = none ∨ v.ownBlock ≠ row) : Own w' base v l := World.ownsRow.kept h hg hne
theorem Own.lt {w : World} {base : Nat} {v : Value} {l : List UInt8} (h : Own w base v l) : ∀ k, v.ownBlock = some k → base ≤ k ∧ k < w.heap.size := World.ownsRow.lt h

/-- '[]byte{}' -/
theorem Own.empty (w : World) (base : Nat) (h : base ≤ w.heap.size) : Own (w.alloc (.cells #[] 5)) base (.slice (some ⟨w.heap.size, 0, none⟩) 0 0) [] :=
  ⟨rfl, .inr ⟨w.heap.size, 0, #[], rfl, h, heap_alloc_new w _, Nat.le_refl _, Nat.zero_le _, rfl, rfl⟩⟩
theorem BytesAt.alloc {w : World} {v : Value} {l : List UInt8} (h : BytesAt w v l) (o : Obj) : BytesAt (w.alloc o) v l := h.below ((Below.refl _ _).alloc (Nat.le_refl _) o)
theorem Own.alloc {w : World} {base : Nat} {v : Value} {l : List UInt8} (h : Own w base v l) (o : Obj) : Own (w.alloc o) base v l := World.ownsRow.alloc h o
/-- what is owned is nil and empty, or a row -/
theorem Own.row {w : World} {base : Nat} {v : Value} {l : List UInt8} (h : Own w base v l) : (v = .slice none 0 0 ∧ l = []) ∨ ∃ g cap, v = .slice (some ⟨g, 0, none⟩) l.length cap ∧ base ≤ g ∧ g < w.heap.size ∧ l.length ≤ cap ∧ cap ≤ maxLen := by
  rcases h.2 with ⟨rfl, h0⟩ | ⟨g, cap, cur, rfl, hb, hg, hnc, hcm, hcs, htake⟩
  · exact .inl ⟨rfl, List.eq_nil_of_length_eq_zero h0⟩
  · exact .inr ⟨g, cap, rfl, hb, (Array.getElem?_eq_some_iff.1 hg).1, hnc, hcm⟩
theorem Own.cell {w : World} {base g n cap : Nat} {l : List UInt8} (h : Own w base (.slice (some ⟨g, 0, none⟩) n cap) l) (hn : n = l.length) {k : Nat} {x : UInt8} (hx : l[k]? = some x) : w.cell? ⟨g, k, none⟩ = some (.int .u8 (x.toNat : Int)) := by
  subst hn
  have hlt : k < l.length := (List.getElem?_eq_some_iff.1 hx).1
  rw [World.ownsRow.cellAt h k (by omega)]
  simp [bytesV, hx]
theorem Own.free {w : World} {base g n cap : Nat} {l : List UInt8} (h : Own w base (.slice (some ⟨g, 0, none⟩) n cap) l) (hn : n = l.length) (k : Nat) : w.frozen? ⟨g, k, none⟩ = false := by
  subst hn
  exact World.ownsRow.frozenAt h k
theorem Own.set {w : World} {base g n cap : Nat} {l : List UInt8} (h : Own w base (.slice (some ⟨g, 0, none⟩) n cap) l) (hn : n = l.length) (k : Nat) (x : UInt8) :
    Own (w.setCell ⟨g, k, none⟩ (.int .u8 (x.toNat : Int))) base (.slice (some ⟨g, 0, none⟩) n cap) (l.set k x) := by
  subst hn
  have := (World.ownsRow.stored h k (.int .u8 (x.toNat : Int))).1
  unfold Own
  rw [List.length_set]
  have e : (bytesV l).set k (.int .u8 (x.toNat : Int)) = bytesV (l.set k x) := by simp [bytesV, List.map_set]
  rw [← e]
  exact this

theorem Own.slice {w : World} {base : Nat} {v : Value} {l : List UInt8} (h : Own w base v l) : ∃ a c, v = .slice a l.length c ∧ l.length ≤ c ∧ c ≤ maxLen := by
  obtain ⟨a, c, rfl, h1, h2, _⟩ := h.bytes
  exact ⟨a, c, rfl, h1, h2⟩
theorem BytesAt.src {w : World} {v : Value} {l : List UInt8} (h : BytesAt w v l) : Src Tryd.prog 1 32 v l.length (bytesV l) w := by
  obtain ⟨a, c, rfl, hlc, _, hl⟩ := h
  rcases hl with rfl | ⟨b, o, rfl, hc⟩
  · cases a with
    | none => exact Src.ofNil w Tryd.underlying32 c
    | some a => exact Src.ofSlice w Tryd.underlying32 a 0 c [] rfl (fun j u hj => by simp at hj) (fun _ h => by cases h)
  · refine Src.ofSlice w Tryd.underlying32 ⟨b, o, none⟩ l.length c _ (by simp [bytesV]) (fun j u hj => ?_) (fun u hu => ?_)
    · simp only [bytesV, List.getElem?_map, Option.map_eq_some_iff] at hj
      obtain ⟨x, hx, rfl⟩ := hj
      have : (⟨b, o, none⟩ : Addr).add j = ⟨b, o + j, none⟩ := by unfold Addr.add; split <;> simp_all
      rw [this]
      exact hc j x hx
    · obtain ⟨_, _, rfl⟩ := List.mem_map.1 hu
      rfl
theorem str_src (s : ByteArray) (w : World) : Src Tryd.prog 1 9 (.string s) s.size (bytesV s.data.toList) w := Src.ofString w Tryd.underlying9 s

/-- append of whatever yields bytes, onto bytes of the call's own -/
theorem wpList_append_any {ops : Array Oper} {rest : List Oper} {o : Oper} {a : Act} {Q : Exit → Act → World → Prop} {w : World} (hgd : o.guard = none) (s x : Operand) (tx : TypeId)
    (ho : o.op = .call { callee := .builtin .append, args := #[s, x], argTypes := #[32, tx] }) (base : Nat)
    (v : Value) (l : List UInt8) (hs : a.eval s = v) (hown : Own w base v l)
    (X : Value) (m : List UInt8) (hx : a.eval x = X) (hsrc : Src Tryd.prog 1 tx X m.length (bytesV m) w)
    (hb : l.length + m.length ≤ 140737488355328) (hbase : base ≤ w.heap.size)
    (h : ∀ v' w', Own w' base v' (l ++ m) → w.grownBy w' v.ownBlock → (v' = .slice none 0 0 ↔ v = .slice none 0 0 ∧ m.length = 0) → wpList Tryd.prog ops Q rest (a.put o.dst v') w') : wpList Tryd.prog ops Q (o :: rest) a w := by
  obtain ⟨i, hi, hz, hs1, hb1⟩ := info_parts Tryd.infoByte
  refine wpList_append_src (P := Tryd.prog) w hgd s x 32 tx ho base 5 i _ 1 1 Tryd.underlying32 hi hz hs1 hb1 rfl v l.length (bytesV l) hs hown X m.length (bytesV m) hx hsrc (by unfold maxLen; omega) (by omega) hbase ?_
  intro v' w' h1 h2 h3
  refine h v' w' ?_ h2 h3
  unfold Own
  rw [bytesV_append, List.length_append]
  exact h1
theorem wpList_append_bytes {ops : Array Oper} {rest : List Oper} {o : Oper} {a : Act} {Q : Exit → Act → World → Prop} {w : World} (hgd : o.guard = none) (s x : Operand)
    (ho : o.op = .call { callee := .builtin .append, args := #[s, x], argTypes := #[32, 32] }) (base : Nat)
    (v : Value) (l : List UInt8) (hs : a.eval s = v) (hown : Own w base v l)
    (X : Value) (m : List UInt8) (hx : a.eval x = X) (hsrc : BytesAt w X m)
    (hb : l.length + m.length ≤ 140737488355328) (hbase : base ≤ w.heap.size)
    (h : ∀ v' w', Own w' base v' (l ++ m) → w.grownBy w' v.ownBlock → (v' = .slice none 0 0 ↔ v = .slice none 0 0 ∧ m.length = 0) → wpList Tryd.prog ops Q rest (a.put o.dst v') w') : wpList Tryd.prog ops Q (o :: rest) a w :=
  wpList_append_any hgd s x _ ho base v l hs hown X m hx hsrc.src hb hbase h

/-- make of bytes -/
theorem wpList_make_bytes {ops : Array Oper} {rest : List Oper} {o : Oper} {a : Act} {Q : Exit → Act → World → Prop} {w : World} (hg : o.guard = none) (l c : Operand) (hop : o.op = Op.makeSlice 32 l c)
    (n : Nat) (L C : Int) (hl : a.eval l = .int .i64 L) (hc : a.eval c = .int .i64 C) (hL : L = (n : Int)) (hC : C = (n : Int)) (hb : n ≤ 140737488355328)
    (hK : ∀ w', Own w' w.heap.size (.slice (some ⟨w.heap.size, 0, none⟩) n n) (List.replicate n 0) → w.grownBy w' none → wpList Tryd.prog ops Q rest (a.put o.dst (.slice (some ⟨w.heap.size, 0, none⟩) n n)) w') :
    wpList Tryd.prog ops Q (o :: rest) a w := by
  obtain ⟨i0, hi, hz0, hz1, hz2⟩ := info_parts Tryd.infoByte
  refine wpList_make_full w hg l c 32 hop w.heap.size 5 i0 (.int .u8 0) 1 Tryd.underlying32 hi hz0 hz1 .i64 .i64 L C n hl hc hL hC (by rw [hz2]; omega) (by unfold maxLen; omega) (Nat.le_refl _) ?_
  intro w1 h1 h2
  refine hK w1 ?_ h2
  unfold Own
  have e : (madeCells (Value.cells (.int .u8 0)) (n * 1)).toList = bytesV (List.replicate n 0) := by
    show (madeCells #[Value.int .u8 0] (n * 1)).toList = _
    rw [toList_madeCells_one]
    simp [bytesV]
  rw [e] at h1
  rw [List.length_replicate]
  exact h1

/-- 'string(b)' -/
theorem string_of {w : World} {v : Value} {l : List UInt8} (h : BytesAt w v l) : (convert 32 9 v).run Tryd.prog w = .ok (.string ⟨l.toArray⟩) w := by
  obtain ⟨a, c, rfl, hlc, _, hl⟩ := h
  rcases hl with rfl | ⟨b, o, rfl, hc⟩
  · show (convert 32 9 (.slice a 0 c)).run Tryd.prog w = _
    rw [run_convert_bytes_string w 32 9 5 a 0 c Tryd.underlying32 Tryd.underlying5 Tryd.underlying9]
    cases a <;> simp [Conv.bytesToString] <;> rfl
  · refine run_convert_bytes_back w 32 9 5 ⟨b, o, none⟩ c l Tryd.underlying32 Tryd.underlying5 Tryd.underlying9 (fun j hj => ?_)
    have e : (⟨b, o, none⟩ : Addr).add j = ⟨b, o + j, none⟩ := by unfold Addr.add; split <;> simp_all
    rw [e]
    exact hc j l[j] (List.getElem?_eq_getElem hj)
/-- 'b[lo:hi]', lo behind b's beginning -/
theorem BytesAt.cut {w : World} {b o len c : Nat} {l : List UInt8} (h : BytesAt w (.slice (some ⟨b, o, none⟩) len c) l) (lo n : Nat) (hn : lo + n ≤ l.length) :
    BytesAt w (.slice (some ⟨b, o + lo, none⟩) n (c - lo)) ((l.drop lo).take n) := by
  obtain ⟨a', c', e, h1, h2, h3⟩ := h
  simp only [Value.slice.injEq] at e
  obtain ⟨rfl, rfl, rfl⟩ := e
  have hlen : ((l.drop lo).take n).length = n := by simp; omega
  refine ⟨_, c - lo, by rw [hlen], by omega, by omega, ?_⟩
  rcases h3 with rfl | ⟨b', o', e, hc⟩
  · exact .inl (by simp)
  · simp only [Option.some.injEq, Addr.mk.injEq, and_true] at e
    obtain ⟨rfl, rfl⟩ := e
    refine .inr ⟨b, o + lo, rfl, fun i x hx => ?_⟩
    rw [List.getElem?_take] at hx
    split at hx
    · rw [List.getElem?_drop] at hx
      rw [Nat.add_assoc]
      exact hc _ _ hx
    · cases hx

/-- '[]byte(s)' -/
theorem bytes_of_string (w : World) (s : ByteArray) (hs : s.size ≤ maxLen) :
    BytesAt (w.drew.alloc (.cells (bytesRow s (grownCap w s.size 0 5)) 5 ((bytesRow s (grownCap w s.size 0 5)).size, (bytesRow s (grownCap w s.size 0 5)).size + 1)))
      (.slice (some ⟨w.heap.size, 0, none⟩) s.size (grownCap w s.size 0 5)) s.data.toList := by
  have hl : s.data.toList.length = s.size := by rw [Array.length_toList]; rfl
  refine ⟨_, grownCap w s.size 0 5, by rw [hl], by rw [hl]; exact grownCap_ge w _ _ _, grownCap_le_maxLen w _ _ _ hs, .inr ⟨w.heap.size, 0, rfl, fun i x hx => ?_⟩⟩
  rw [cell_of_row _ w.heap.size (0 + i) _ _ _ (heap_alloc_new w.drew _)]
  have hi : i < s.data.size := by
    have := (List.getElem?_eq_some_iff.1 hx).1
    simpa using this
  rw [Nat.zero_add, bytesRow_at s _ i hi]
  have : s.data[i] = x := by
    have h2 := List.getElem?_eq_getElem (l := s.data.toList) (i := i) (by simpa using hi)
    rw [hx] at h2
    simpa using (Option.some.inj h2).symm
  rw [this]

/-- '^x' of a byte -/
theorem not_u8 (y : UInt8) : bits .xor .u8 (if IntKind.u8.signed = true then -1 else IntKind.u8.max) (y.toNat : Int) = ((255 ^^^ y).toNat : Int) := by
  have : (if IntKind.u8.signed = true then (-1 : Int) else IntKind.u8.max) = (((255 : UInt8).toNat : Nat) : Int) := by decide
  rw [this, bits_xor_u8]
theorem Own.keep {w w' : World} {base g : Nat} {v : Value} {l : List UInt8} (h : Own w base v l) (hg : w.grownBy w' (some g)) (hlt : g < base) : Own w' base v l :=
  h.grown hg (by
    cases hv : v.ownBlock with
    | none => exact .inl rfl
    | some k => right; intro e; have := (h.lt k hv).1; simp at e; omega)
end Go.Proofs.YtflbioiildndoaaDoor
