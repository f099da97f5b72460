/- append of bytes 0 ('append(b, make([]byte, n)...)') onto bytes of the call's own -/
import Derived.Test.YtflbioiildndoaaDoorOwn
import Derived.Lib.AppendZerosOnto
namespace Go.Proofs.YtflbioiildndoaaDoor
open Go.RowKit
set_option linter.unusedSimpArgs false

section
variable {P : Program} (w : World)
theorem zeroCells_one (z : Value) (m : Nat) : (Builtin.zeroCells #[z] m).toList = List.replicate m z := by
  apply List.ext_getElem?
  intro j
  by_cases hj : j < m
  · simp [Builtin.zeroCells, hj, Nat.mod_one]
  · simp [Builtin.zeroCells, hj]
theorem run_append_row_zeros (t tn ty e : TypeId) (i : TypeInfo) (z : Value) (kq kn : IntKind) (ht : P.underlying t = some (.slice e)) (htn : P.underlying tn = some (.int kn)) (hi : P.info? e = some i) (hz : i.zero = some z) (hsz : i.size = 1) (hzc : z.cells = #[z]) (hz1 : z.oneCell' = true)
    (g sLen sCap : Nat) (cur : Array Value) (hg : w.heap[g]? = some (.cells cur e (0, 0))) (k : Nat) (h0 : 0 < k) (h48 : k * i.bytes ≤ 281474976710656) (hk : k ≤ 281474976710656)
    (hroom : sLen + k ≤ sCap) (hfit : sLen + k ≤ cur.size) :
    (Builtin.append_ #[t, tn] ty #[.slice (some ⟨g, 0, none⟩) sLen sCap, .int kq k]).run P w =
      .ok (.slice (some ⟨g, 0, none⟩) (sLen + k) sCap) (w.setRow g (cur.toList.take sLen ++ List.replicate k z ++ cur.toList.drop (sLen + k)).toArray) := by
  have hst := run_storeCells_at P g sLen e (List.replicate k z) 0 cur w hg (by simpa using hfit) (fun u hu => by rw [List.eq_of_mem_replicate hu]; exact hz1)
  simp only [Nat.add_zero, List.length_replicate] at hst
  have hw : IntKind.i64.wrap (k : Int) = k := by rw [IntKind.wrap_i64]; omega
  have h48i : ¬ (281474976710656 < (k : Int) * (i.bytes : Int)) := by
    rw [← Int.natCast_mul]
    omega
  have hneg : ¬ ((k : Int) < 0) := by omega
  have hk0 : ¬ k = 0 := by omega
  have hzl := zeroCells_one z k
  simp [Builtin.append_, run_underlying ht, run_underlying htn, sizeOf, typeInfo, zeroValue, hi, hz, hsz, hzc, asInt, asIntOf, hw, hneg, h48i, hk0, hroom, Addr.add_lit, hzl, hst]
theorem run_append_zero_zeros (t tn ty e : TypeId) (i : TypeInfo) (kq kn : IntKind) (ht : P.underlying t = some (.slice e)) (htn : P.underlying tn = some (.int kn)) (hi : P.info? e = some i)
    (a : Option Addr) (sLen sCap : Nat) (hroom : sLen ≤ sCap) :
    (Builtin.append_ #[t, tn] ty #[.slice a sLen sCap, .int kq ((0 : Nat) : Int)]).run P w = .ok (.slice a sLen sCap) w := by
  have hw : IntKind.i64.wrap 0 = 0 := by rw [IntKind.wrap_i64]; omega
  cases a <;> simp [Builtin.append_, run_underlying ht, run_underlying htn, sizeOf, typeInfo, zeroValue, hi, asInt, asIntOf, hw, hroom, storeCells]
end

theorem Tryd.zeros_own {w : World} {base : Nat} {v : Value} {l : List UInt8} (hown : Own w base v l) (m : Nat) (ty : TypeId) (hb : l.length + m ≤ 140737488355328) (hbase : base ≤ w.heap.size) :
    ∃ v' w', (Builtin.append_ #[32, 3] ty #[v, .int .i64 (m : Int)]).run Tryd.prog w = .ok v' w' ∧ Own w' base v' (l ++ List.replicate m 0) ∧ w.grownBy w' v.ownBlock := by
  obtain ⟨i, hi, hz, hs1, hb1⟩ := info_parts Tryd.infoByte
  rcases Nat.eq_zero_or_pos m with rfl | h0
  · refine ⟨v, w, ?_, by simpa using hown, World.grownBy.refl _ _⟩
    obtain ⟨a, c, rfl, h1, h2⟩ := hown.slice
    exact run_append_zero_zeros w _ _ ty _ i .i64 _ Tryd.underlying32 Tryd.underlying3 hi a _ _ h1
  have hlen : (bytesV (l ++ List.replicate m 0)).length = (l ++ List.replicate m (0 : UInt8)).length * 1 := by simp [bytesV]
  have hbv : bytesV (l ++ List.replicate m 0) = bytesV l ++ List.replicate m (.int .u8 0) := by simp [bytesV]
  have grown : ∀ (old : Nat) (row : Option Nat),
      Own (w.drew.alloc (.cells ((bytesV l).toArray ++ Builtin.zeroCells #[.int .u8 0] m ++ Builtin.zeroCells #[.int .u8 0] (grownCap w (l.length + m) old 5 - (l.length + m))) 5)) base
        (.slice (some ⟨w.heap.size, 0, none⟩) (l.length + m) (grownCap w (l.length + m) old 5)) (l ++ List.replicate m 0) ∧
      w.grownBy (w.drew.alloc (.cells ((bytesV l).toArray ++ Builtin.zeroCells #[.int .u8 0] m ++ Builtin.zeroCells #[.int .u8 0] (grownCap w (l.length + m) old 5 - (l.length + m))) 5)) row := by
    intro old row
    have hge := grownCap_ge w (l.length + m) old 5
    have hcm : grownCap w (l.length + m) old 5 ≤ maxLen := grownCap_le_maxLen w (l.length + m) old _ (by unfold maxLen; omega)
    refine ⟨⟨hlen, .inr ⟨w.heap.size, _, _, by simp, hbase, heap_alloc_new w.drew _, by simpa using hge, hcm, ?_, ?_⟩⟩, ⟨rfl, rfl, rfl, by simp, fun k hk _ => Go.RowKit.Below.heap_alloc w.drew _ k hk⟩⟩
    · simp only [Array.size_append, List.size_toArray, size_zeroCells, bytesV_length]
      simp
      omega
    · rw [hbv]
      simp only [Array.toList_append, zeroCells_one]
      have h2 : (l ++ List.replicate m (0 : UInt8)).length * 1 = (bytesV l ++ List.replicate m (Value.int .u8 0)).length := by simp [bytesV]
      rw [h2]
      exact List.take_left
  rcases hown.2 with ⟨rfl, hl0⟩ | ⟨g, cap, cur, rfl, hbg, hg, hnc, hcm, hcs, htake⟩
  · have hl : l = [] := List.eq_nil_of_length_eq_zero hl0
    subst hl
    have hr := Lib.run_append_grow_zeros (P := Tryd.prog) w 32 3 ty 5 i (.int .u8 0) .i64 _ Tryd.underlying32 Tryd.underlying3 hi hz none 0 0 [] (run_firstCells_none w.drew i.size 0 0 0) m h0 (by omega) (by omega) (by omega) (by rw [hb1]; omega) (growslice_fits (by omega) (by rw [hb1]; omega))
    have hgr := grown 0 (Value.ownBlock (.slice none 0 0))
    simp only [List.length_nil, Nat.zero_add] at hgr
    refine ⟨_, _, by simpa using hr, ?_, ?_⟩
    · simpa [bytesV, Value.cells] using hgr.1
    · simpa [bytesV, Value.cells] using hgr.2
  · by_cases hroom : l.length + m ≤ cap
    · have hr := run_append_row_zeros (P := Tryd.prog) w 32 3 ty 5 i (.int .u8 0) .i64 _ Tryd.underlying32 Tryd.underlying3 hi hz hs1 rfl rfl g l.length cap cur hg m h0 (by rw [hb1]; omega) (by omega) hroom (by omega)
      refine ⟨_, _, hr, ⟨hlen, .inr ⟨g, cap, _, by simp, hbg, setRow_heap w g cur _ _ _ hg, by simpa using hroom, hcm, ?_, ?_⟩⟩, ⟨rfl, rfl, rfl, by simp, fun k hk hne => setRow_other w g k _ (fun e => hne (by simp [Value.ownBlock, e]))⟩⟩
      · simp only [List.size_toArray, List.length_append, List.length_take, List.length_drop, Array.length_toList, List.length_replicate]
        omega
      · rw [hbv]
        rw [Nat.mul_one] at htake
        rw [htake]
        have h2 : (l ++ List.replicate m (0 : UInt8)).length * 1 = (bytesV l ++ List.replicate m (Value.int .u8 0)).length := by simp [bytesV]
        rw [h2]
        exact List.take_left
    · have holds : ∀ j u, (bytesV l)[j]? = some u → w.cell? ((⟨g, 0, none⟩ : Addr).add j) = some u := World.ownsRow.cells hown (g := g) rfl
      have hr := Lib.run_append_grow_zeros (P := Tryd.prog) w 32 3 ty 5 i (.int .u8 0) .i64 _ Tryd.underlying32 Tryd.underlying3 hi hz (some ⟨g, 0, none⟩) l.length cap (bytesV l) (run_firstCells_some w.drew i.size l.length ⟨g, 0, none⟩ l.length cap (bytesV l) (by rw [hs1]; simp [bytesV]) (by simpa using holds)) m h0 (by omega) (by omega) (by omega) (by rw [hb1]; omega) (growslice_fits (by omega) (by rw [hb1]; omega))
      have hgr := grown cap (Value.ownBlock (.slice (some ⟨g, 0, none⟩) l.length cap))
      exact ⟨_, _, hr, hgr.1, hgr.2⟩

theorem wpList_append_zeros {ops : Array Oper} {rest : List Oper} {o : Oper} {a : Act} {Q : Exit → Act → World → Prop} {w : World} (hgd : o.guard = none) (s x : Operand)
    (ho : o.op = .call { callee := .builtin .append, args := #[s, x], argTypes := #[32, 3] }) (base : Nat)
    (v : Value) (l : List UInt8) (hs : a.eval s = v) (hown : Own w base v l) (m : Nat) (M : Int) (hx : a.eval x = .int .i64 M) (hM : M = (m : Int))
    (hb : l.length + m ≤ 140737488355328) (hbase : base ≤ w.heap.size)
    (h : ∀ v' w', Own w' base v' (l ++ List.replicate m 0) → w.grownBy w' v.ownBlock → wpList Tryd.prog ops Q rest (a.put o.dst v') w') : wpList Tryd.prog ops Q (o :: rest) a w := by
  subst hM
  obtain ⟨v', w', hr, h1, h2⟩ := Tryd.zeros_own hown m o.type hb hbase
  exact Lib.wpList_append_run w hgd s x _ _ ho v _ hs hx v' w' hr (h v' w' h1 h2)
end Go.Proofs.YtflbioiildndoaaDoor
