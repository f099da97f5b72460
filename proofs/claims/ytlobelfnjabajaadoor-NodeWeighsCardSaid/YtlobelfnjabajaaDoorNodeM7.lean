/- merged: NodeS1, NodeS2 -/
import Derived.Test.YtlobelfnjabajaaDoorNodeM4
import Derived.Test.YtlobelfnjabajaaDoorSameInts
import Derived.Laws.StructEq
/- nodes: slices.Equal of texts, of entries; Same, and the document's -/
namespace Go.Proofs.YtlobelfnjabajaaDoor
open Go.RowKit
set_option linter.unusedVariables false
set_option linter.unusedSimpArgs false

theorem sameK_true {α : Type} {eq : α → α → Bool} {l m : List α} {k : Nat} {x y : α} (h : sameK eq l m k = true) (hx : l[k]? = some x) (hy : m[k]? = some y) (e : eq x y = true) : sameK eq l m (k + 1) = true := by rw [sameK_step hx hy, h, e]; rfl
theorem sameL_no {α : Type} {eq : α → α → Bool} {l m : List α} {k : Nat} {x y : α} (hlt : k < l.length) (hx : l[k]? = some x) (hy : m[k]? = some y) (e : eq x y = false) : sameL eq l m = false := by
  unfold sameL
  rw [sameK_false (k := k + 1) (by rw [sameK_step hx hy, e, Bool.and_false]) l.length (by omega), Bool.and_false]
theorem sameL_yes {α : Type} {eq : α → α → Bool} {l m : List α} (hn : l.length = m.length) (h : sameK eq l m l.length = true) : sameL eq l m = true := by
  unfold sameL
  rw [decide_eq_true hn, h]; rfl
theorem sameL_len {α : Type} {eq : α → α → Bool} {l m : List α} (hn : ¬ l.length = m.length) : sameL eq l m = false := by
  unfold sameL
  rw [decide_eq_false hn]; rfl
theorem sameL_ints (l m : List Int) : sameL intEq l m = (l == m) := by
  by_cases hn : l.length = m.length
  · have : ∀ k, k ≤ l.length → sameK intEq l m k = (l.take k == m.take k) := by
      intro k
      induction k with
      | zero => intro _; simp [sameK]
      | succ k ih =>
        intro hk
        obtain ⟨x, hx⟩ := getElem?_some_of_lt (show k < l.length by omega)
        obtain ⟨y, hy⟩ := getElem?_some_of_lt (show k < m.length by omega)
        rw [sameK_step hx hy, ih (by omega), take_snoc hx, take_snoc hy, Bool.eq_iff_iff]
        unfold intEq
        simp only [Bool.and_eq_true, beq_iff_eq]
        constructor
        · rintro ⟨h1, h2⟩; rw [h1, h2]
        · intro h
          have := List.append_inj' h rfl
          exact ⟨this.1, by simpa using this.2⟩
    unfold sameL
    rw [decide_eq_true hn, this l.length (Nat.le_refl _), List.take_length, hn, List.take_length]; rfl
  · rw [sameL_len hn]
    symm
    rw [beq_eq_false_iff_ne]
    intro e; exact hn (by rw [e])

set_option maxRecDepth 100000 in
set_option maxHeartbeats 2000000 in
theorem equalStr_any (a1 a2 : Option Addr) (c1 c2 : Nat) (l1 l2 : List ByteArray) (w : World) (h1 : RowAt eStr w (.slice a1 l1.length c1) l1) (h2 : RowAt eStr w (.slice a2 l2.length c2) l2) :
    Calls Tryd.prog 58 #[.slice a1 l1.length c1, .slice a2 l2.length c2] w fun e w' => e = .returned (.bool (sameL txtEq l1 l2)) ∧ Below w.heap.size w w' := by
  have hl1 : l1.length ≤ 9223372036854775807 := by
    obtain ⟨a', c', e, q1, q2, _⟩ := h1
    unfold maxLen at q2
    omega
  have hl2 : l2.length ≤ 9223372036854775807 := by
    obtain ⟨a', c', e, q1, q2, _⟩ := h2
    unfold maxLen at q2
    omega
  have H1 := Lib.hid h1
  have H2 := Lib.hid h2
  clear h1 h2
  by_cases hne : l1.length = l2.length
  · have ht : ((l1.length : Int) != (l2.length : Int)) = false := by simp [hne]
    have HN := Lib.hid hne
    clear hne
    go_enter Tryd.func58, Tryd.ntmps58
    go_wp2
    go_loopw [13] (fun i wr => ∃ k : Nat, k ≤ l1.length ∧ i = .int .i64 k ∧ sameK txtEq l1 l2 k = true ∧ Below w.heap.size w wr) (fun i _ => l1.length - (intOf i).toNat)
    case atStart => exact ⟨0, by omega, rfl, rfl, Below.refl _ _⟩
    case round =>
      obtain ⟨k, hk, rfl, htk, hbel⟩ := hrel
      have HT := Lib.hid htk
      clear htk
      by_cases hlt : k < l1.length
      · obtain ⟨x, hx⟩ := getElem?_some_of_lt hlt
        obtain ⟨y, hy⟩ := getElem?_some_of_lt (show k < l2.length by rw [← HN.out]; exact hlt)
        have hlt2 : (k : Int) < (l2.length : Int) := by have := HN.out; omega
        have hlt1 : (k : Int) < (l1.length : Int) := by omega
        obtain ⟨b1, o1, rfl, d0⟩ := str_cell (H1.out.below hbel) hx
        obtain ⟨b2, o2, rfl, e0⟩ := str_cell (H2.out.below hbel) hy
        have p0 := Later.cell d0
        have q0 := Later.cell e0
        have HX := Lib.hid hx
        have HY := Lib.hid hy
        clear hx hy
        cases hb : txtEq x y with
        | true =>
          have HB := Lib.hid hb
          have HK := Lib.hid (sameK_true HT.out HX.out HY.out hb)
          have hle : (x.toList == y.toList) = true := hb
          clear hb
          go_wp2
          refine wp_region_later (by kernel_rfl) (by kernel_rfl) ?_
          repeat (first | go_big_quiet_step (fail) | quiet_step (fail))
          refine wpQuiet_nil ?_
          intro xw
          have hxb := xw.below
          go_wp2_with fail
          go_roundw
          case rel => exact ⟨k + 1, by omega, by go_num, HK.out, hbel.trans (hxb.mono hbel.size)⟩
          case measure => simp [intOf]; omega
        | false =>
          have HF := Lib.hid (sameL_no hlt HX.out HY.out hb)
          have hle : (x.toList == y.toList) = false := hb
          clear hb
          go_wp2
          refine wp_region_later (by kernel_rfl) (by kernel_rfl) ?_
          repeat (first | go_big_quiet_step (fail) | quiet_step (fail))
          refine wpQuiet_nil ?_
          intro xw
          have hxb := xw.below
          go_wp2_with fail
          go_ret
          exact ⟨ret_bool HF.out.symm, hbel.trans (hxb.mono hbel.size)⟩
      · have hk2 : k = l1.length := by omega
        subst hk2
        have HY := Lib.hid (sameL_yes HN.out HT.out)
        go_wp2
        go_ret
        exact ⟨ret_bool HY.out.symm, hbel⟩
  · have ht : ((l1.length : Int) != (l2.length : Int)) = true := by simp; omega
    have HF := Lib.hid (sameL_len (eq := txtEq) hne)
    clear hne
    go_enter Tryd.func58, Tryd.ntmps58
    go_wp2
    go_ret
    exact ⟨ret_bool HF.out.symm, Below.refl _ _⟩

theorem ent_fields : (Tryd.prog.fieldsOf 44).toList.map (fun f => (f.name == "_", f.type, f.offset)) = [(false, 9, 0), (false, 9, 1), (false, 3, 2), (false, 3, 3)] := by kernel_rfl
theorem ent_eqRun (x y : Nd.Ent) (w : World) : (Op.equalIn 10000 44 (.agg #[.string x.key, .string x.value, .int .i64 x.chain, .int .i64 x.size]) (.agg #[.string y.key, .string y.value, .int .i64 y.chain, .int .i64 y.size])).run Tryd.prog w = .ok (entEq x y) w := by
  have h1 : Tryd.prog.underlying 44 = some (.struct (Tryd.prog.fieldsOf 44)) := by kernel_rfl
  have h2 : Tryd.prog.stoodInHeld 44 = false := by kernel_rfl
  have h3 : Tryd.prog.underlying 9 = some .string := by kernel_rfl
  have h4 : Tryd.prog.underlying 3 = some (.int .i64) := by kernel_rfl
  rw [run_equalIn_struct w 9999 44 _ _ h1 h2]
  have hf := ent_fields
  generalize (Tryd.prog.fieldsOf 44).toList = fs at hf
  obtain ⟨f0, f1, f2, f3, rfl⟩ : ∃ f0 f1 f2 f3, fs = [f0, f1, f2, f3] := by
    have hl : fs.length = 4 := by have := congrArg List.length hf; simpa using this
    rcases fs with _ | ⟨a, _ | ⟨b, _ | ⟨c, _ | ⟨d, _ | ⟨e, t⟩⟩⟩⟩⟩ <;> first | exact ⟨_, _, _, _, rfl⟩ | (simp at hl)
  · simp only [List.map_cons, List.map_nil, List.cons.injEq, Prod.mk.injEq, and_true] at hf
    obtain ⟨⟨n0, t0, o0⟩, ⟨n1, t1, o1⟩, ⟨n2, t2, o2⟩, ⟨n3, t3, o3⟩⟩ := hf
    have m0 : f0.name ≠ "_" := by simpa using n0
    have m1 : f1.name ≠ "_" := by simpa using n1
    have m2 : f2.name ≠ "_" := by simpa using n2
    have m3 : f3.name ≠ "_" := by simpa using n3
    have p0 : ∀ (a b c d : Value) (w : World), (part 9 #[a, b, c, d] 0).run Tryd.prog w = .ok a w := fun _ _ _ _ _ => by kernel_rfl
    have p1 : ∀ (a b c d : Value) (w : World), (part 9 #[a, b, c, d] 1).run Tryd.prog w = .ok b w := fun _ _ _ _ _ => by kernel_rfl
    have p2 : ∀ (a b c d : Value) (w : World), (part 3 #[a, b, c, d] 2).run Tryd.prog w = .ok c w := fun _ _ _ _ _ => by kernel_rfl
    have p3 : ∀ (a b c d : Value) (w : World), (part 3 #[a, b, c, d] 3).run Tryd.prog w = .ok d w := fun _ _ _ _ _ => by kernel_rfl
    unfold entEq txtEq
    simp only [Op.eqFields, m0, m1, m2, m3, t0, t1, t2, t3, o0, o1, o2, o3, ne_eq, not_false_eq_true, if_true, Sem.run_bind, p0, p1, p2, p3, Result.andThen_ok, run_equalIn_string _ _ _ _ _ h3, run_equalIn_int _ _ _ _ _ _ _ h4, Sem.run_ite, Sem.run_pure]
    cases (x.key.toList == y.key.toList) <;> cases (x.value.toList == y.value.toList) <;> cases (x.chain == y.chain) <;> cases (x.size == y.size) <;> simp

set_option maxRecDepth 100000 in
set_option maxHeartbeats 2000000 in
theorem equalEnt_any (a1 a2 : Option Addr) (c1 c2 : Nat) (l1 l2 : List Nd.Ent) (w : World) (h1 : RowAt eEnt w (.slice a1 l1.length c1) l1) (h2 : RowAt eEnt w (.slice a2 l2.length c2) l2) :
    Calls Tryd.prog 57 #[.slice a1 l1.length c1, .slice a2 l2.length c2] w fun e w' => e = .returned (.bool (sameL entEq l1 l2)) ∧ Below w.heap.size w w' := by
  have hl1 : l1.length ≤ 9223372036854775807 := by
    obtain ⟨a', c', e, q1, q2, _⟩ := h1
    unfold maxLen at q2
    omega
  have hl2 : l2.length ≤ 9223372036854775807 := by
    obtain ⟨a', c', e, q1, q2, _⟩ := h2
    unfold maxLen at q2
    omega
  have H1 := Lib.hid h1
  have H2 := Lib.hid h2
  clear h1 h2
  by_cases hne : l1.length = l2.length
  · have ht : ((l1.length : Int) != (l2.length : Int)) = false := by simp [hne]
    have HN := Lib.hid hne
    clear hne
    go_enter Tryd.func57, Tryd.ntmps57
    go_wp2
    go_loopw [13] (fun i wr => ∃ k : Nat, k ≤ l1.length ∧ i = .int .i64 k ∧ sameK entEq l1 l2 k = true ∧ Below w.heap.size w wr) (fun i _ => l1.length - (intOf i).toNat)
    case atStart => exact ⟨0, by omega, rfl, rfl, Below.refl _ _⟩
    case round =>
      obtain ⟨k, hk, rfl, htk, hbel⟩ := hrel
      have HT := Lib.hid htk
      clear htk
      by_cases hlt : k < l1.length
      · obtain ⟨x, hx⟩ := getElem?_some_of_lt hlt
        obtain ⟨y, hy⟩ := getElem?_some_of_lt (show k < l2.length by rw [← HN.out]; exact hlt)
        have hlt2 : (k : Int) < (l2.length : Int) := by have := HN.out; omega
        have hlt1 : (k : Int) < (l1.length : Int) := by omega
        obtain ⟨b1, o1, rfl, d0, d1, d2, d3⟩ := ent_cells (H1.out.below hbel) hx
        obtain ⟨b2, o2, rfl, e0, e1, e2, e3⟩ := ent_cells (H2.out.below hbel) hy
        have p0 := Later.cell d0
        have q0 := Later.cell e0
        have p1 := Later.cell d1
        have q1 := Later.cell e1
        have p2 := Later.cell d2
        have q2 := Later.cell e2
        have p3 := Later.cell d3
        have q3 := Later.cell e3
        have HX := Lib.hid hx
        have HY := Lib.hid hy
        clear hx hy
        cases hb : entEq x y with
        | true =>
          have HB := Lib.hid hb
          have HK := Lib.hid (sameK_true HT.out HX.out HY.out hb)
          have hle := ent_eqRun x y
          rw [hb] at hle
          have hq : Tryd.prog.eqGuardType Tryd.prog.depth 44 = false := by kernel_rfl
          clear hb
          go_wp2
          refine wp_region_later (by kernel_rfl) (by kernel_rfl) ?_
          repeat (first | go_big_quiet_step (fail) | quiet_step (fail))
          refine wpQuiet_nil ?_
          intro xw
          have hxb := xw.below
          go_wp2_with fail
          go_roundw
          case rel => exact ⟨k + 1, by omega, by go_num, HK.out, hbel.trans (hxb.mono hbel.size)⟩
          case measure => simp [intOf]; omega
        | false =>
          have HF := Lib.hid (sameL_no hlt HX.out HY.out hb)
          have hle := ent_eqRun x y
          rw [hb] at hle
          have hq : Tryd.prog.eqGuardType Tryd.prog.depth 44 = false := by kernel_rfl
          clear hb
          go_wp2
          refine wp_region_later (by kernel_rfl) (by kernel_rfl) ?_
          repeat (first | go_big_quiet_step (fail) | quiet_step (fail))
          refine wpQuiet_nil ?_
          intro xw
          have hxb := xw.below
          go_wp2_with fail
          go_ret
          exact ⟨ret_bool HF.out.symm, hbel.trans (hxb.mono hbel.size)⟩
      · have hk2 : k = l1.length := by omega
        subst hk2
        have HY := Lib.hid (sameL_yes HN.out HT.out)
        go_wp2
        go_ret
        exact ⟨ret_bool HY.out.symm, hbel⟩
  · have ht : ((l1.length : Int) != (l2.length : Int)) = true := by simp; omega
    have HF := Lib.hid (sameL_len (eq := entEq) hne)
    clear hne
    go_enter Tryd.func57, Tryd.ntmps57
    go_wp2
    go_ret
    exact ⟨ret_bool HF.out.symm, Below.refl _ _⟩
set_option maxRecDepth 100000 in
theorem eqInts_any (v1 v2 : Value) (l1 l2 : List Int) (w : World) (h1 : IntsAt w v1 l1) (h2 : IntsAt w v2 l2) :
    Calls Tryd.prog 59 #[v1, v2] w fun e w' => e = .returned (.bool (l1 == l2)) ∧ Below w.heap.size w w' := by
  have H1 : Hid (IntsAt w v1 l1) := h1
  have H2 : Hid (IntsAt w v2 l2) := h2
  obtain ⟨a1, c1, rfl, hlc1, hcm1, hl1⟩ := h1
  obtain ⟨a2, c2, rfl, hlc2, hcm2, hl2⟩ := h2
  unfold maxLen at hcm1 hcm2
  have HL1 := Lib.hid hl1
  have HL2 := Lib.hid hl2
  clear hl1 hl2
  by_cases hne : l1.length = l2.length
  · have ht : ((l1.length : Int) != (l2.length : Int)) = false := by simp [hne]
    have HN := Lib.hid hne
    clear hne
    go_enter Tryd.func59, Tryd.ntmps59
    go_wp2
    go_loopw [13] (fun i wr => ∃ k : Nat, k ≤ l1.length ∧ i = .int .i64 k ∧ l1.take k = l2.take k ∧ Below w.heap.size w wr) (fun i _ => l1.length - (intOf i).toNat)
    case atStart => exact ⟨0, by omega, rfl, by simp, Below.refl _ _⟩
    case round =>
      obtain ⟨k, hk, rfl, htk, hbel⟩ := hrel
      have HT := Lib.hid htk
      clear htk
      by_cases hlt : k < l1.length
      · obtain ⟨x, hx⟩ := getElem?_some_of_lt hlt
        obtain ⟨y, hy⟩ := getElem?_some_of_lt (show k < l2.length by rw [← HN.out]; exact hlt)
        have hlt2 : (k : Int) < (l2.length : Int) := by have := HN.out; omega
        have hlt1 : (k : Int) < (l1.length : Int) := by omega
        rcases HL1.out with hn | ⟨b1, o1, rfl, hc1⟩
        · rw [hn] at hlt; simp at hlt
        rcases HL2.out with hn | ⟨b2, o2, rfl, hc2⟩
        · rw [hn] at hlt2; simp at hlt2; omega
        have hcx := Later.cell (w := wr) ((hbel.cell (World.block_lt_of_cell? w _ (hc1 k x hx))).trans (hc1 k x hx))
        have hcy := Later.cell (w := wr) ((hbel.cell (World.block_lt_of_cell? w _ (hc2 k y hy))).trans (hc2 k y hy))
        have HX := Lib.hid hx
        have HY := Lib.hid hy
        clear hx hy hc1 hc2
        go_wp2
        refine wp_region_later (by kernel_rfl) (by kernel_rfl) ?_
        repeat (first | go_big_quiet_step (fail) | quiet_step (fail))
        refine wpQuiet_nil ?_
        intro xw
        have hxb := xw.below
        go_wp2
        · have hne : (x != y) = true := by assumption
          go_ret
          refine ⟨ret_bool ?_, hbel.trans (hxb.mono hbel.size)⟩
          symm
          rw [beq_eq_false_iff_ne]
          intro e
          have h1 := HX.out
          rw [e, HY.out] at h1
          simp at h1
          subst h1
          simp at hne
        · have heq : (x != y) = false := by assumption
          have hxy : x = y := by simpa using heq
          go_roundw
          case rel => exact ⟨k + 1, by omega, by go_num, take_eq_succI HT.out HX.out HY.out hxy, hbel.trans (hxb.mono hbel.size)⟩
          case measure => simp [intOf]; omega
      · have hk2 : k = l1.length := by omega
        subst hk2
        go_wp2
        go_ret
        refine ⟨ret_bool ?_, hbel⟩
        symm
        rw [beq_iff_eq]
        have h1 := HT.out
        rwa [List.take_length, HN.out, List.take_length] at h1
  · have ht : ((l1.length : Int) != (l2.length : Int)) = true := by simp; omega
    go_enter Tryd.func59, Tryd.ntmps59
    go_wp2
    go_ret
    exact ⟨ret_bool (by symm; rw [beq_eq_false_iff_ne]; exact fun e => hne (by rw [e])), Below.refl _ _⟩


theorem equalStr_is (a1 a2 : Option Addr) (c1 c2 : Nat) (l1 l2 : List ByteArray) (B : Bool) (hB : sameL txtEq l1 l2 = B) (w : World) (h1 : RowAt eStr w (.slice a1 l1.length c1) l1) (h2 : RowAt eStr w (.slice a2 l2.length c2) l2) :
    Calls Tryd.prog 58 #[.slice a1 l1.length c1, .slice a2 l2.length c2] w fun e w' => e = .returned (.bool B) ∧ Below w.heap.size w w' := by subst hB; exact equalStr_any a1 a2 c1 c2 l1 l2 w h1 h2
theorem equalEnt_is (a1 a2 : Option Addr) (c1 c2 : Nat) (l1 l2 : List Nd.Ent) (B : Bool) (hB : sameL entEq l1 l2 = B) (w : World) (h1 : RowAt eEnt w (.slice a1 l1.length c1) l1) (h2 : RowAt eEnt w (.slice a2 l2.length c2) l2) :
    Calls Tryd.prog 57 #[.slice a1 l1.length c1, .slice a2 l2.length c2] w fun e w' => e = .returned (.bool B) ∧ Below w.heap.size w w' := by subst hB; exact equalEnt_any a1 a2 c1 c2 l1 l2 w h1 h2
theorem eqInts_is (a1 a2 : Option Addr) (c1 c2 : Nat) (l1 l2 : List Int) (B : Bool) (hB : sameL intEq l1 l2 = B) (w : World) (h1 : IntsAt w (.slice a1 l1.length c1) l1) (h2 : IntsAt w (.slice a2 l2.length c2) l2) :
    Calls Tryd.prog 59 #[.slice a1 l1.length c1, .slice a2 l2.length c2] w fun e w' => e = .returned (.bool B) ∧ Below w.heap.size w w' := by rw [sameL_ints] at hB; subst hB; exact eqInts_any _ _ l1 l2 w h1 h2
set_option maxRecDepth 100000 in
set_option maxHeartbeats 2000000 in
theorem nodeSame_any (l1 l2 : Bool) (es1 es2 : List Nd.Ent) (ks1 ks2 : List ByteArray) (ki1 ki2 : List Int) (a1 a2 a3 b1 b2 b3 : Option Addr) (c1 c2 c3 d1 d2 d3 : Nat) (w : World) (h1 : RowAt eEnt w (.slice a1 es1.length c1) es1) (h2 : RowAt eStr w (.slice a2 ks1.length c2) ks1) (h3 : IntsAt w (.slice a3 ki1.length c3) ki1) (k1 : RowAt eEnt w (.slice b1 es2.length d1) es2) (k2 : RowAt eStr w (.slice b2 ks2.length d2) ks2) (k3 : IntsAt w (.slice b3 ki2.length d3) ki2) :
    Calls Tryd.prog 20 #[.agg #[.bool l1, .slice a1 es1.length c1, .slice a2 ks1.length c2, .slice a3 ki1.length c3], .agg #[.bool l2, .slice b1 es2.length d1, .slice b2 ks2.length d2, .slice b3 ki2.length d3]] w fun e w' => e = .returned (.bool (nodeEq l1 es1 ks1 ki1 l2 es2 ks2 ki2)) ∧ Below w.heap.size w w' := by
  have H1 := Lib.hid h1
  have H2 := Lib.hid h2
  have H3 := Lib.hid h3
  have K1 := Lib.hid k1
  have K2 := Lib.hid k2
  have K3 := Lib.hid k3
  have HE := Lib.hid (show nodeEq l1 es1 ks1 ki1 l2 es2 ks2 ki2 = ((l1 == l2) && (sameL entEq es1 es2 && (sameL txtEq ks1 ks2 && sameL intEq ki1 ki2))) from rfl)
  clear h1 h2 h3 k1 k2 k3
  obtain ⟨B0, hB0⟩ : ∃ B, (l1 == l2) = B := ⟨_, rfl⟩
  obtain ⟨B1, hB1⟩ : ∃ B, sameL entEq es1 es2 = B := ⟨_, rfl⟩
  obtain ⟨B2, hB2⟩ : ∃ B, sameL txtEq ks1 ks2 = B := ⟨_, rfl⟩
  obtain ⟨B3, hB3⟩ : ∃ B, sameL intEq ki1 ki2 = B := ⟨_, rfl⟩
  have HE2 := Lib.hid (show nodeEq l1 es1 ks1 ki1 l2 es2 ks2 ki2 = (B0 && (B1 && (B2 && B3))) by rw [HE.out, hB0, hB1, hB2, hB3])
  have HB1 := Lib.hid hB1
  have HB2 := Lib.hid hB2
  have HB3 := Lib.hid hB3
  clear HE hB1 hB2 hB3
  cases B0 with
  | false =>
    have HF := Lib.hid (HE2.out.trans (show (false && (B1 && (B2 && B3))) = false from rfl))
    go_enter Tryd.func20, Tryd.ntmps20
    go_wp2_with fail
    go_ret
    exact ⟨ret_bool HF.out.symm, by go_grown⟩
  | true =>
    go_enter Tryd.func20, Tryd.ntmps20
    go_upto_region 1 with fail
    refine wp_name fun W hW => ?_
    have HX := Lib.hid (show BoxAt W w.heap.size [.bool l1, .slice a1 es1.length c1, .slice a2 ks1.length c2, .slice a3 ki1.length c3] by rw [hW]; exact (BoxAt.new w [_, _, _, _] _).alloc _)
    have HY := Lib.hid (show BoxAt W (w.heap.size + 1) [.bool l2, .slice b1 es2.length d1, .slice b2 ks2.length d2, .slice b3 ki2.length d3] by rw [hW]; exact BoxAt.newAt _ _ (by simp) [_, _, _, _] _)
    have HB := Lib.hid (show Below w.heap.size w W by rw [hW]; go_grown)
    clear hW
    obtain ⟨m0, m1, m2, m3⟩ := HX.out.four
    obtain ⟨n0, n1, n2, n3⟩ := HY.out.four
    cases B1 with
    | false =>
      have HF := Lib.hid (HE2.out.trans (show (true && (false && (B2 && B3))) = false from rfl))
      go_wp2_with (go_at_call 57; (refine (equalEnt_is _ _ _ _ es1 es2 false HB1.out _ (H1.out.below HB.out) (K1.out.below HB.out)).mono ?_); (rintro e w1 ⟨rfl, hb1⟩); (have HQ1 := Lib.hid (below_step HB.out hb1)); (clear hb1))
      go_ret
      exact ⟨ret_bool HF.out.symm, HQ1.out⟩
    | true =>
      cases B2 with
      | false =>
        have HF := Lib.hid (HE2.out.trans (show (true && (true && (false && B3))) = false from rfl))
        go_wp2_with (first
          | (go_at_call 57; (refine (equalEnt_is _ _ _ _ es1 es2 true HB1.out _ (H1.out.below HB.out) (K1.out.below HB.out)).mono ?_); (rintro e w1 ⟨rfl, hb1⟩); (have HQ1 := Lib.hid (below_step HB.out hb1)); (clear m0 m1 m2 m3 n0 n1 n2 n3); (obtain ⟨m0, m1, m2, m3⟩ := (HX.out.below hb1).four); (obtain ⟨n0, n1, n2, n3⟩ := (HY.out.below hb1).four); (clear hb1))
          | (go_at_call 58; (refine (equalStr_is _ _ _ _ ks1 ks2 false HB2.out _ (H2.out.below HQ1.out) (K2.out.below HQ1.out)).mono ?_); (rintro e w2 ⟨rfl, hb2⟩); (have HQ2 := Lib.hid (below_step HQ1.out hb2)); (clear hb2)))
        go_ret
        exact ⟨ret_bool HF.out.symm, HQ2.out⟩
      | true =>
        have HF := Lib.hid (HE2.out.trans (show (true && (true && (true && B3))) = B3 by simp))
        go_wp2_with (first
          | (go_at_call 57; (refine (equalEnt_is _ _ _ _ es1 es2 true HB1.out _ (H1.out.below HB.out) (K1.out.below HB.out)).mono ?_); (rintro e w1 ⟨rfl, hb1⟩); (have HQ1 := Lib.hid (below_step HB.out hb1)); (have HX1 := Lib.hid (HX.out.below hb1)); (have HY1 := Lib.hid (HY.out.below hb1)); (clear m0 m1 m2 m3 n0 n1 n2 n3); (obtain ⟨m0, m1, m2, m3⟩ := HX1.out.four); (obtain ⟨n0, n1, n2, n3⟩ := HY1.out.four); (clear hb1))
          | (go_at_call 58; (refine (equalStr_is _ _ _ _ ks1 ks2 true HB2.out _ (H2.out.below HQ1.out) (K2.out.below HQ1.out)).mono ?_); (rintro e w2 ⟨rfl, hb2⟩); (have HQ2 := Lib.hid (below_step HQ1.out hb2)); (clear m0 m1 m2 m3 n0 n1 n2 n3); (obtain ⟨m0, m1, m2, m3⟩ := (HX1.out.below hb2).four); (obtain ⟨n0, n1, n2, n3⟩ := (HY1.out.below hb2).four); (clear hb2))
          | (go_at_call 59; (refine (eqInts_is _ _ _ _ ki1 ki2 B3 HB3.out _ (H3.out.below HQ2.out) (K3.out.below HQ2.out)).mono ?_); (rintro e w3 ⟨rfl, hb3⟩); (have HQ3 := Lib.hid (below_step HQ2.out hb3)); (clear hb3)))
        go_ret
        exact ⟨ret_bool HF.out.symm, HQ3.out⟩
theorem nodeSame_is (l1 l2 : Bool) (es1 es2 : List Nd.Ent) (ks1 ks2 : List ByteArray) (ki1 ki2 : List Int) (B : Bool) (hB : nodeEq l1 es1 ks1 ki1 l2 es2 ks2 ki2 = B) (a1 a2 a3 b1 b2 b3 : Option Addr) (c1 c2 c3 d1 d2 d3 : Nat) (w : World) (h1 : RowAt eEnt w (.slice a1 es1.length c1) es1) (h2 : RowAt eStr w (.slice a2 ks1.length c2) ks1) (h3 : IntsAt w (.slice a3 ki1.length c3) ki1) (k1 : RowAt eEnt w (.slice b1 es2.length d1) es2) (k2 : RowAt eStr w (.slice b2 ks2.length d2) ks2) (k3 : IntsAt w (.slice b3 ki2.length d3) ki2) :
    Calls Tryd.prog 20 #[.agg #[.bool l1, .slice a1 es1.length c1, .slice a2 ks1.length c2, .slice a3 ki1.length c3], .agg #[.bool l2, .slice b1 es2.length d1, .slice b2 ks2.length d2, .slice b3 ki2.length d3]] w fun e w' => e = .returned (.bool B) ∧ Below w.heap.size w w' := by
  subst hB; exact nodeSame_any l1 l2 es1 es2 ks1 ks2 ki1 ki2 a1 a2 a3 b1 b2 b3 c1 c2 c3 d1 d2 d3 w h1 h2 h3 k1 k2 k3
end Go.Proofs.YtlobelfnjabajaaDoor

/- nodes: the document's sameness -/
namespace Go.Proofs.YtlobelfnjabajaaDoor
open Go.RowKit
set_option linter.unusedVariables false
set_option linter.unusedSimpArgs false

set_option maxRecDepth 100000 in
set_option maxHeartbeats 2000000 in
theorem sameTexts_any (a1 a2 : Option Addr) (c1 c2 : Nat) (l1 l2 : List ByteArray) (w : World) (h1 : RowAt eStr w (.slice a1 l1.length c1) l1) (h2 : RowAt eStr w (.slice a2 l2.length c2) l2) :
    Calls Tryd.prog 56 #[.slice a1 l1.length c1, .slice a2 l2.length c2] w fun e w' => e = .returned (.bool (sameL txtEq l1 l2)) ∧ Below w.heap.size w w' := by
  have hl1 : l1.length ≤ 9223372036854775807 := by
    obtain ⟨a', c', e, q1, q2, _⟩ := h1
    unfold maxLen at q2
    omega
  have hl2 : l2.length ≤ 9223372036854775807 := by
    obtain ⟨a', c', e, q1, q2, _⟩ := h2
    unfold maxLen at q2
    omega
  have H1 := Lib.hid h1
  have H2 := Lib.hid h2
  clear h1 h2
  by_cases hne : l1.length = l2.length
  · have ht : ((l1.length : Int) != (l2.length : Int)) = false := by simp [hne]
    have HN := Lib.hid hne
    clear hne
    go_enter Tryd.func56, Tryd.ntmps56
    go_wp2
    go_loopw [5] (fun i wr => ∃ k : Nat, k ≤ l1.length ∧ i = .int .i64 k ∧ sameK txtEq l1 l2 k = true ∧ Below w.heap.size w wr) (fun i _ => l1.length - (intOf i).toNat)
    case atStart => exact ⟨0, by omega, rfl, rfl, Below.refl _ _⟩
    case round =>
      obtain ⟨k, hk, rfl, htk, hbel⟩ := hrel
      have HT := Lib.hid htk
      clear htk
      by_cases hlt : k < l1.length
      · obtain ⟨x, hx⟩ := getElem?_some_of_lt hlt
        obtain ⟨y, hy⟩ := getElem?_some_of_lt (show k < l2.length by rw [← HN.out]; exact hlt)
        have hlt2 : (k : Int) < (l2.length : Int) := by have := HN.out; omega
        have hlt1 : (k : Int) < (l1.length : Int) := by omega
        obtain ⟨b1, o1, rfl, d0⟩ := str_cell (H1.out.below hbel) hx
        obtain ⟨b2, o2, rfl, e0⟩ := str_cell (H2.out.below hbel) hy
        have p0 := Later.cell d0
        have q0 := Later.cell e0
        have HX := Lib.hid hx
        have HY := Lib.hid hy
        clear hx hy
        cases hb : txtEq x y with
        | true =>
          have HK := Lib.hid (sameK_true HT.out HX.out HY.out hb)
          have hle : (x.toList == y.toList) = true := hb
          clear hb
          go_wp2
          refine wp_region_later (by kernel_rfl) (by kernel_rfl) ?_
          repeat (first | go_big_quiet_step (fail) | quiet_step (fail))
          refine wpQuiet_nil ?_
          intro xw
          have hxb := xw.below
          go_wp2_with fail
          go_roundw
          case rel => exact ⟨k + 1, by omega, by go_num, HK.out, hbel.trans (hxb.mono hbel.size)⟩
          case measure => simp [intOf]; omega
        | false =>
          have HF := Lib.hid (sameL_no hlt HX.out HY.out hb)
          have hle : (x.toList == y.toList) = false := hb
          clear hb
          go_wp2
          refine wp_region_later (by kernel_rfl) (by kernel_rfl) ?_
          repeat (first | go_big_quiet_step (fail) | quiet_step (fail))
          refine wpQuiet_nil ?_
          intro xw
          have hxb := xw.below
          go_wp2_with fail
          go_ret
          exact ⟨ret_bool HF.out.symm, hbel.trans (hxb.mono hbel.size)⟩
      · have hk2 : k = l1.length := by omega
        subst hk2
        have HY := Lib.hid (sameL_yes HN.out HT.out)
        go_wp2
        go_ret
        exact ⟨ret_bool HY.out.symm, hbel⟩
  · have ht : ((l1.length : Int) != (l2.length : Int)) = true := by simp; omega
    have HF := Lib.hid (sameL_len (eq := txtEq) hne)
    clear hne
    go_enter Tryd.func56, Tryd.ntmps56
    go_wp2
    go_ret
    exact ⟨ret_bool HF.out.symm, Below.refl _ _⟩
theorem sameTexts_is (a1 a2 : Option Addr) (c1 c2 : Nat) (l1 l2 : List ByteArray) (B : Bool) (hB : sameL txtEq l1 l2 = B) (w : World) (h1 : RowAt eStr w (.slice a1 l1.length c1) l1) (h2 : RowAt eStr w (.slice a2 l2.length c2) l2) :
    Calls Tryd.prog 56 #[.slice a1 l1.length c1, .slice a2 l2.length c2] w fun e w' => e = .returned (.bool B) ∧ Below w.heap.size w w' := by subst hB; exact sameTexts_any a1 a2 c1 c2 l1 l2 w h1 h2
theorem int_cellS {w : World} {a : Option Addr} {n c : Nat} {l : List Int} (h : IntsAt w (.slice a n c) l) {k : Nat} {x : Int} (hx : l[k]? = some x) : ∃ b o, a = some ⟨b, o, none⟩ ∧ w.cell? ⟨b, o + k, none⟩ = some (.int .i64 x) := by
  obtain ⟨a', c', e, h1, h2, h3⟩ := h
  obtain ⟨rfl, rfl⟩ : a = a' ∧ c = c' := by injection e with e1 e2 e3; exact ⟨e1, e3⟩
  rcases h3 with rfl | ⟨b, o, rfl, hc⟩
  · simp at hx
  · exact ⟨b, o, rfl, hc k x hx⟩
theorem nodeEq_no1 {l1 l2 : Bool} {es1 es2 : List Nd.Ent} {ks1 ks2 : List ByteArray} {ki1 ki2 : List Int} (h : (l1 != l2) = true ∨ es1.length ≠ es2.length ∨ ki1.length ≠ ki2.length) : nodeEq l1 es1 ks1 ki1 l2 es2 ks2 ki2 = false := by
  unfold nodeEq
  rcases h with h | h | h
  · have : (l1 == l2) = false := by cases l1 <;> cases l2 <;> simp_all
    rw [this]; rfl
  · rw [sameL_len h]; simp
  · rw [sameL_len (eq := intEq) h]; simp
theorem nodeEq_no2 {l1 l2 : Bool} {es1 es2 : List Nd.Ent} {ks1 ks2 : List ByteArray} {ki1 ki2 : List Int} (h : sameL entEq es1 es2 = false) : nodeEq l1 es1 ks1 ki1 l2 es2 ks2 ki2 = false := by
  unfold nodeEq; rw [h]; simp
theorem nodeEq_no3 {l1 l2 : Bool} {es1 es2 : List Nd.Ent} {ks1 ks2 : List ByteArray} {ki1 ki2 : List Int} (h : sameL intEq ki1 ki2 = false) : nodeEq l1 es1 ks1 ki1 l2 es2 ks2 ki2 = false := by
  unfold nodeEq; rw [h]; simp
theorem nodeEq_end {l1 l2 : Bool} {es1 es2 : List Nd.Ent} {ks1 ks2 : List ByteArray} {ki1 ki2 : List Int} (h1 : (l1 != l2) = false) (h2 : sameL entEq es1 es2 = true) (h3 : sameL intEq ki1 ki2 = true) : nodeEq l1 es1 ks1 ki1 l2 es2 ks2 ki2 = sameL txtEq ks1 ks2 := by
  have : (l1 == l2) = true := by cases l1 <;> cases l2 <;> simp_all
  unfold nodeEq; rw [this, h2, h3]; simp
set_option maxRecDepth 100000 in
set_option maxHeartbeats 4000000 in
theorem refSame7_any (l1 l2 : Bool) (es1 es2 : List Nd.Ent) (ks1 ks2 : List ByteArray) (ki1 ki2 : List Int) (a1 a2 a3 b1 b2 b3 : Option Addr) (c1 c2 c3 d1 d2 d3 : Nat) (w : World) (h1 : RowAt eEnt w (.slice a1 es1.length c1) es1) (h2 : RowAt eStr w (.slice a2 ks1.length c2) ks1) (h3 : IntsAt w (.slice a3 ki1.length c3) ki1) (k1 : RowAt eEnt w (.slice b1 es2.length d1) es2) (k2 : RowAt eStr w (.slice b2 ks2.length d2) ks2) (k3 : IntsAt w (.slice b3 ki2.length d3) ki2) :
    Calls Tryd.prog 18 #[.agg #[.bool l1, .slice a1 es1.length c1, .slice a2 ks1.length c2, .slice a3 ki1.length c3], .agg #[.bool l2, .slice b1 es2.length d1, .slice b2 ks2.length d2, .slice b3 ki2.length d3]] w fun e w' => e = .returned (.bool (nodeEq l1 es1 ks1 ki1 l2 es2 ks2 ki2)) ∧ Below w.heap.size w w' := by
  have hl1 : es1.length ≤ 9223372036854775807 := by
    obtain ⟨a', c', e, q1, q2, _⟩ := h1
    unfold maxLen at q2
    omega
  have hl3 : ki1.length ≤ 9223372036854775807 := by
    obtain ⟨a', c', e, q1, q2, _⟩ := h3
    unfold maxLen at q2
    omega
  have H1 := Lib.hid h1
  have H2 := Lib.hid h2
  have H3 := Lib.hid h3
  have K1 := Lib.hid k1
  have K2 := Lib.hid k2
  have K3 := Lib.hid k3
  clear h1 h2 h3 k1 k2 k3
  by_cases hc : (l1 != l2) = true ∨ es1.length ≠ es2.length ∨ ki1.length ≠ ki2.length
  · have HF := Lib.hid (nodeEq_no1 (l1 := l1) (l2 := l2) (es1 := es1) (es2 := es2) (ks1 := ks1) (ks2 := ks2) (ki1 := ki1) (ki2 := ki2) hc)
    by_cases hl : l1 = l2
    · subst hl
      have hw : (((es1.length : Int) != (es2.length : Int)) = true) ∨ (((es1.length : Int) != (es2.length : Int)) = false ∧ ((ki1.length : Int) != (ki2.length : Int)) = true) := by
        by_cases h2 : es1.length = es2.length
        · refine .inr ⟨by simp [h2], ?_⟩
          have h5 : ki1.length ≠ ki2.length := by
            rcases hc with h | h | h
            · simp at h
            · exact absurd h2 h
            · exact h
          simp; omega
        · exact .inl (by simp; omega)
      clear hc
      rcases hw with g2 | ⟨g2, g3⟩
      all_goals
        go_enter Tryd.func18, Tryd.ntmps18
        go_wp2_with fail
        go_ret
        exact ⟨ret_bool HF.out.symm, by go_grown⟩
    · clear hc
      cases l1 <;> cases l2
      · exact absurd rfl hl
      · clear hl
        go_enter Tryd.func18, Tryd.ntmps18
        go_wp2_with fail
        go_ret
        exact ⟨ret_bool HF.out.symm, by go_grown⟩
      · clear hl
        go_enter Tryd.func18, Tryd.ntmps18
        go_wp2_with fail
        go_ret
        exact ⟨ret_bool HF.out.symm, by go_grown⟩
      · exact absurd rfl hl
  · have g1 : (l1 != l2) = false := by cases hq : (l1 != l2) with | true => exact absurd (Or.inl hq) hc | false => rfl
    have n2 : es1.length = es2.length := by by_cases h : es1.length = es2.length; exact h; exact absurd (.inr (.inl h)) hc
    have n3 : ki1.length = ki2.length := by by_cases h : ki1.length = ki2.length; exact h; exact absurd (.inr (.inr h)) hc
    have g2 : ((es1.length : Int) != (es2.length : Int)) = false := by simp [n2]
    have g3 : ((ki1.length : Int) != (ki2.length : Int)) = false := by simp [n3]
    obtain rfl : l1 = l2 := by cases l1 <;> cases l2 <;> simp_all
    have G1 := Lib.hid g1
    clear g1
    have N2 := Lib.hid n2
    have N3 := Lib.hid n3
    clear hc n2 n3
    go_enter Tryd.func18, Tryd.ntmps18
    go_upto_region 1 with fail
    refine wp_name fun W hW => ?_
    have HX := Lib.hid (show BoxAt W w.heap.size [.bool l1, .slice a1 es1.length c1, .slice a2 ks1.length c2, .slice a3 ki1.length c3] by rw [hW]; exact (BoxAt.new w [_, _, _, _] _).alloc _)
    have HY := Lib.hid (show BoxAt W (w.heap.size + 1) [.bool l1, .slice b1 es2.length d1, .slice b2 ks2.length d2, .slice b3 ki2.length d3] by rw [hW]; exact BoxAt.newAt _ _ (by simp) [_, _, _, _] _)
    have HB := Lib.hid (show Below w.heap.size w W by rw [hW]; go_grown)
    clear hW
    obtain ⟨m0, m1, m2, m3⟩ := HX.out.four
    obtain ⟨n0, n1, n2, n3⟩ := HY.out.four
    go_wp2_with fail
    go_loopw [5] (fun i wr => ∃ k : Nat, k ≤ es1.length ∧ i = .int .i64 k ∧ sameK entEq es1 es2 k = true ∧ BoxAt wr w.heap.size [.bool l1, .slice a1 es1.length c1, .slice a2 ks1.length c2, .slice a3 ki1.length c3] ∧ BoxAt wr (w.heap.size + 1) [.bool l1, .slice b1 es2.length d1, .slice b2 ks2.length d2, .slice b3 ki2.length d3] ∧ Below w.heap.size w wr) (fun i _ => es1.length - (intOf i).toNat)
    case atStart => exact ⟨0, by omega, rfl, rfl, HX.out, HY.out, HB.out⟩
    case round =>
      obtain ⟨k, hk, rfl, htk, hbx, hby, hbr⟩ := hrel
      have HT := Lib.hid htk
      have HBX := Lib.hid hbx
      have HBY := Lib.hid hby
      have HBR := Lib.hid hbr
      clear htk m0 m1 m2 m3 n0 n1 n2 n3
      obtain ⟨m0, m1, m2, m3⟩ := hbx.four
      obtain ⟨n0, n1, n2, n3⟩ := hby.four
      clear hbx hby
      by_cases hlt : k < es1.length
      · obtain ⟨x, hx⟩ := getElem?_some_of_lt hlt
        obtain ⟨y, hy⟩ := getElem?_some_of_lt (show k < es2.length by rw [← N2.out]; exact hlt)
        have hlt2 : (k : Int) < (es2.length : Int) := by have := N2.out; omega
        have hlt1 : (k : Int) < (es1.length : Int) := by omega
        obtain ⟨q1, o1, rfl, x0, x1, x2, x3⟩ := ent_cells (H1.out.below HBR.out) hx
        obtain ⟨q2, o2, rfl, y0, y1, y2, y3⟩ := ent_cells (K1.out.below HBR.out) hy
        have HXE := Lib.hid hx
        have HYE := Lib.hid hy
        clear hx hy
        have p1 := Later.cell m1
        have p2 := Later.cell n1
        have s0 := Later.cell x0
        have s1 := Later.cell x1
        have s2 := Later.cell x2
        have s3 := Later.cell x3
        have t0 := Later.cell y0
        have t1 := Later.cell y1
        have t2 := Later.cell y2
        have t3 := Later.cell y3
        have hq : Tryd.prog.eqGuardType Tryd.prog.depth 44 = false := by kernel_rfl
        have hle := ent_eqRun x y
        cases hb : entEq x y with
        | true =>
          rw [hb] at hle
          have HK := Lib.hid (sameK_true HT.out HXE.out HYE.out hb)
          clear hb
          go_upto_region 6 with fail
          refine wp_region_later (by kernel_rfl) (by kernel_rfl) ?_
          repeat (first | go_big_quiet_step (fail) | quiet_step (fail))
          refine wpQuiet_nil ?_
          intro xw
          have HXW := Lib.hid xw.below
          go_wp2_with fail
          go_roundw
          case rel => exact ⟨k + 1, by omega, by go_num, HK.out, HBX.out.below HXW.out, HBY.out.below HXW.out, below_step HBR.out HXW.out⟩
          case measure => simp [intOf]; omega
        | false =>
          rw [hb] at hle
          have HF := Lib.hid (nodeEq_no2 (l1 := l1) (l2 := l1) (ks1 := ks1) (ks2 := ks2) (ki1 := ki1) (ki2 := ki2) (sameL_no hlt HXE.out HYE.out hb))
          clear hb
          go_upto_region 6 with fail
          refine wp_region_later (by kernel_rfl) (by kernel_rfl) ?_
          repeat (first | go_big_quiet_step (fail) | quiet_step (fail))
          refine wpQuiet_nil ?_
          intro xw
          have HXW := Lib.hid xw.below
          go_wp2_with fail
          go_ret
          exact ⟨ret_bool HF.out.symm, below_step HBR.out HXW.out⟩
      · have hkk : k = es1.length := by omega
        subst hkk
        have HE := Lib.hid (sameL_yes N2.out HT.out)
        have hge : (es1.length : Int) ≤ (es1.length : Int) := Int.le_refl _
        go_wp2_with fail
        have HXa := HBX
        have HYa := HBY
        have HBa := HBR
        clear HBX HBY HBR HX HY HB HT
        go_loopw [6] (fun i wr' => ∃ k : Nat, k ≤ ki1.length ∧ i = .int .i64 k ∧ sameK intEq ki1 ki2 k = true ∧ BoxAt wr' w.heap.size [.bool l1, .slice a1 es1.length c1, .slice a2 ks1.length c2, .slice a3 ki1.length c3] ∧ BoxAt wr' (w.heap.size + 1) [.bool l1, .slice b1 es2.length d1, .slice b2 ks2.length d2, .slice b3 ki2.length d3] ∧ Below w.heap.size w wr') (fun i _ => ki1.length - (intOf i).toNat)
        case atStart => exact ⟨0, by omega, rfl, rfl, HXa.out, HYa.out, HBa.out⟩
        case round =>
          obtain ⟨k, hk, rfl, htk, hbx, hby, hbr⟩ := hrel
          have HT := Lib.hid htk
          have HBX := Lib.hid hbx
          have HBY := Lib.hid hby
          have HBR := Lib.hid hbr
          clear htk m0 m1 m2 m3 n0 n1 n2 n3
          obtain ⟨m0, m1, m2, m3⟩ := hbx.four
          obtain ⟨n0, n1, n2, n3⟩ := hby.four
          clear hbx hby
          by_cases hlt : k < ki1.length
          · obtain ⟨x, hx⟩ := getElem?_some_of_lt hlt
            obtain ⟨y, hy⟩ := getElem?_some_of_lt (show k < ki2.length by rw [← N3.out]; exact hlt)
            have hlt2 : (k : Int) < (ki2.length : Int) := by have := N3.out; omega
            have hlt1 : (k : Int) < (ki1.length : Int) := by omega
            obtain ⟨q1, o1, rfl, x0⟩ := int_cellS (H3.out.below HBR.out) hx
            obtain ⟨q2, o2, rfl, y0⟩ := int_cellS (K3.out.below HBR.out) hy
            have HXE := Lib.hid hx
            have HYE := Lib.hid hy
            clear hx hy
            have p1 := Later.cell m3
            have p2 := Later.cell n3
            have s0 := Later.cell x0
            have t0 := Later.cell y0
            cases hb : intEq x y with
            | true =>
              have hle : (x != y) = false := by unfold intEq at hb; simp at hb ⊢; exact hb
              have HK := Lib.hid (sameK_true HT.out HXE.out HYE.out hb)
              clear hb
              go_upto_region 11 with fail
              refine wp_region_later (by kernel_rfl) (by kernel_rfl) ?_
              repeat (first | go_big_quiet_step (fail) | quiet_step (fail))
              refine wpQuiet_nil ?_
              intro xw
              have HXW := Lib.hid xw.below
              go_wp2_with fail
              go_roundw
              case rel => exact ⟨k + 1, by omega, by go_num, HK.out, HBX.out.below HXW.out, HBY.out.below HXW.out, below_step HBR.out HXW.out⟩
              case measure => simp [intOf]; omega
            | false =>
              have hle : (x != y) = true := by unfold intEq at hb; simp at hb ⊢; exact hb
              have HF := Lib.hid (nodeEq_no3 (l1 := l1) (l2 := l1) (es1 := es1) (es2 := es2) (ks1 := ks1) (ks2 := ks2) (sameL_no hlt HXE.out HYE.out hb))
              clear hb
              go_upto_region 11 with fail
              refine wp_region_later (by kernel_rfl) (by kernel_rfl) ?_
              repeat (first | go_big_quiet_step (fail) | quiet_step (fail))
              refine wpQuiet_nil ?_
              intro xw
              have HXW := Lib.hid xw.below
              go_wp2_with fail
              go_ret
              exact ⟨ret_bool HF.out.symm, below_step HBR.out HXW.out⟩
          · have hkk : k = ki1.length := by omega
            subst hkk
            have HF := Lib.hid (nodeEq_end (ks1 := ks1) (ks2 := ks2) G1.out HE.out (sameL_yes N3.out HT.out))
            go_wp2_with (go_at_call 56; (refine (sameTexts_is _ _ _ _ ks1 ks2 _ HF.out.symm _ (H2.out.below HBR.out) (K2.out.below HBR.out)).mono ?_); (rintro e w3 ⟨rfl, hb3⟩); (have HQ3 := Lib.hid (below_step HBR.out hb3)); (clear hb3))
            go_ret
            exact ⟨rfl, HQ3.out⟩
theorem refSame7_is (l1 l2 : Bool) (es1 es2 : List Nd.Ent) (ks1 ks2 : List ByteArray) (ki1 ki2 : List Int) (B : Bool) (hB : nodeEq l1 es1 ks1 ki1 l2 es2 ks2 ki2 = B) (a1 a2 a3 b1 b2 b3 : Option Addr) (c1 c2 c3 d1 d2 d3 : Nat) (w : World) (h1 : RowAt eEnt w (.slice a1 es1.length c1) es1) (h2 : RowAt eStr w (.slice a2 ks1.length c2) ks1) (h3 : IntsAt w (.slice a3 ki1.length c3) ki1) (k1 : RowAt eEnt w (.slice b1 es2.length d1) es2) (k2 : RowAt eStr w (.slice b2 ks2.length d2) ks2) (k3 : IntsAt w (.slice b3 ki2.length d3) ki2) :
    Calls Tryd.prog 18 #[.agg #[.bool l1, .slice a1 es1.length c1, .slice a2 ks1.length c2, .slice a3 ki1.length c3], .agg #[.bool l2, .slice b1 es2.length d1, .slice b2 ks2.length d2, .slice b3 ki2.length d3]] w fun e w' => e = .returned (.bool B) ∧ Below w.heap.size w w' := by
  subst hB; exact refSame7_any l1 l2 es1 es2 ks1 ks2 ki1 ki2 a1 a2 a3 b1 b2 b3 c1 c2 c3 d1 d2 d3 w h1 h2 h3 k1 k2 k3
end Go.Proofs.YtlobelfnjabajaaDoor
