/- merged: Node4, Node5, Node6, Node7 -/
import Derived.Test.YtlobelfnjabajaaDoorNodeM1
import Derived.Test.YtlobelfnjabajaaDoorInts
import Derived.Deep.DeepCutAuto
/- nodes: rising, leaf -/
namespace Go.Proofs.YtlobelfnjabajaaDoor
open Go.RowKit
set_option linter.unusedVariables false
set_option linter.unusedSimpArgs false

namespace Nd
def atS (ts : List ByteArray) (i : Nat) : ByteArray := ts.getD i ⟨#[]⟩
/-- is each one of the first k greater than the one ahead? -/
def risK (ts : List ByteArray) : Nat → Bool
  | 0 => true
  | k + 1 => risK ts k && (decide (k = 0) || less (atS ts (k - 1)) (atS ts k))
def risB (ts : List ByteArray) : Bool := risK ts ts.length
theorem atS_of {ts : List ByteArray} {i : Nat} {s : ByteArray} (h : ts[i]? = some s) : atS ts i = s := by simp [atS, h]
theorem risK_false {ts : List ByteArray} {k : Nat} (h : risK ts k = false) : ∀ j, k ≤ j → risK ts j = false := by
  intro j hj
  induction j with
  | zero => obtain rfl : k = 0 := by omega
            exact h
  | succ j ih =>
    by_cases hkj : k = j + 1
    · subst hkj; exact h
    · rw [risK, ih (by omega)]; rfl
theorem leq_less (a b : ByteArray) : (Go.Op.bytesLess a.toList b.toList || a.toList == b.toList) = !less b a := bytesLess_or _ _
end Nd
/-- the first of the entries that is not right -/
def entsK (l : List Nd.Ent) : Nat → Bool
  | 0 => true
  | k + 1 => entsK l k && (match l[k]? with | some e => Nd.entB e | none => true)
theorem row_cell {α : Type} {E : Elem α} {w : World} {a : Option Addr} {n c : Nat} {l : List α} (h : RowAt E w (.slice a n c) l) {k : Nat} {x : α} (hx : l[k]? = some x) : ∃ b o, a = some ⟨b, o, none⟩ ∧ ∀ j u, (E.enc x)[j]? = some u → w.cell? ⟨b, o + (k * E.size + j), none⟩ = some u := by
  obtain ⟨a', c', e, h1, h2, h3⟩ := h
  obtain ⟨rfl, rfl⟩ : a = a' ∧ c = c' := by injection e with e1 e2 e3; exact ⟨e1, e3⟩
  rcases h3 with rfl | ⟨b, o, rfl, hc⟩
  · simp at hx
  · refine ⟨b, o, rfl, fun j u hu => ?_⟩
    have := hc k x hx j u hu
    exact this
theorem ent_cells {w : World} {a : Option Addr} {n c : Nat} {l : List Nd.Ent} (h : RowAt eEnt w (.slice a n c) l) {k : Nat} {x : Nd.Ent} (hx : l[k]? = some x) : ∃ b o, a = some ⟨b, o, none⟩ ∧ w.cell? ⟨b, o + k * 4, none⟩ = some (.string x.key) ∧ w.cell? ⟨b, o + k * 4 + 1, none⟩ = some (.string x.value) ∧ w.cell? ⟨b, o + k * 4 + 2, none⟩ = some (.int .i64 x.chain) ∧ w.cell? ⟨b, o + k * 4 + 3, none⟩ = some (.int .i64 x.size) := by
  obtain ⟨b, o, rfl, hc⟩ := row_cell h hx
  exact ⟨b, o, rfl, hc 0 _ rfl, hc 1 _ rfl, hc 2 _ rfl, hc 3 _ rfl⟩
theorem str_cell {w : World} {a : Option Addr} {n c : Nat} {l : List ByteArray} (h : RowAt eStr w (.slice a n c) l) {k : Nat} {x : ByteArray} (hx : l[k]? = some x) : ∃ b o, a = some ⟨b, o, none⟩ ∧ w.cell? ⟨b, o + k, none⟩ = some (.string x) := by
  obtain ⟨b, o, rfl, hc⟩ := row_cell h hx
  have := hc 0 _ rfl
  simp only [Nat.mul_one, Nat.add_zero] at this
  exact ⟨b, o, rfl, this⟩

theorem leafKey_is (e : Nd.Ent) (w : World) :
    Calls Tryd.prog 97 #[.agg #[.string e.key, .string e.value, .int .i64 e.chain, .int .i64 e.size]] w fun r w' => r = .returned (.string e.key) ∧ Below w.heap.size w w' := by
  go_enter Tryd.func97, Tryd.ntmps97
  go_wp2
  go_ret
  exact ⟨rfl, by go_grown⟩
theorem innerKey_is (s : ByteArray) (w : World) :
    Calls Tryd.prog 101 #[.string s] w fun r w' => r = .returned (.string s) ∧ w = w' := by
  go_enter Tryd.func101, Tryd.ntmps101
  go_wp2
  go_ret
  exact ⟨rfl, rfl⟩

set_option maxRecDepth 100000 in
set_option maxHeartbeats 2000000 in
theorem risingEnt_any (es : List Nd.Ent) (a1 : Option Addr) (c1 : Nat) (w : World) (h1 : RowAt eEnt w (.slice a1 es.length c1) es) :
    Calls Tryd.prog 96 #[.slice a1 es.length c1, .func (.func 97) #[] #[]] w fun e w' => e = .returned (.bool (Nd.risB (es.map (·.key)))) ∧ Below w.heap.size w w' := by
  have H1 := Lib.hid h1
  have hl1 : es.length ≤ 9223372036854775807 := by
    obtain ⟨a', c', e, q1, q2, _⟩ := h1
    unfold maxLen at q2
    omega
  clear h1
  obtain ⟨ts, hts⟩ : ∃ ts, es.map (·.key) = ts := ⟨_, rfl⟩
  have htl : ts.length = es.length := by rw [← hts]; simp
  have hg : ∀ (i : Nat) (x : Nd.Ent), es[i]? = some x → Nd.atS ts i = x.key := fun i x hx => Nd.atS_of (by rw [← hts]; rw [List.getElem?_map, hx]; rfl)
  have HG := Lib.hid hg
  have HRB := Lib.hid (show Nd.risB (es.map (·.key)) = Nd.risK ts es.length by unfold Nd.risB; rw [hts, htl])
  clear hts hg htl
  go_enter Tryd.func96, Tryd.ntmps96
  go_wp2
  go_loopw [5] (fun i wr => ∃ k : Nat, 1 ≤ k ∧ (k ≤ es.length ∨ k = 1) ∧ i = .int .i64 k ∧ (k ≤ es.length → Nd.risK ts k = true) ∧ Below w.heap.size w wr) (fun i _ => es.length + 1 - (intOf i).toNat)
  case atStart => exact ⟨1, by omega, .inr rfl, rfl, fun _ => by simp [Nd.risK], by first | exact Below.refl _ _ | go_grown⟩
  case round =>
    obtain ⟨k, hk1, hk, rfl, hris, hbr⟩ := hrel
    have HR := Lib.hid hris
    have HBR := Lib.hid hbr
    clear hris
    by_cases hlt : k < es.length
    · obtain ⟨x, hx⟩ := getElem?_some_of_lt hlt
      obtain ⟨y, hy⟩ := getElem?_some_of_lt (show k - 1 < es.length by omega)
      obtain ⟨b1, o1, rfl, e0, e1, e2, e3⟩ := ent_cells (H1.out.below HBR.out) hx
      obtain ⟨b2, o2, hb2, d0, d1, d2, d3⟩ := ent_cells (H1.out.below HBR.out) hy
      obtain ⟨rfl, rfl⟩ : b1 = b2 ∧ o1 = o2 := by simpa using hb2
      have hlt1 : (k : Int) < (es.length : Int) := by omega
      have hk1i : (1 : Int) ≤ (k : Int) := by omega
      have hax := HG.out k x hx
      have hay := HG.out (k - 1) y hy
      have hst : Nd.risK ts (k + 1) = Nd.less y.key x.key := by rw [Nd.risK, HR.out (by omega), hax, hay]; simp; omega
      have hle := Nd.leq_less x.key y.key
      have HST := Lib.hid hst
      have n0 := Later.cell e0
      have p0 := Later.cell d0
      have n1 := Later.cell e1
      have p1 := Later.cell d1
      have n2 := Later.cell e2
      have p2 := Later.cell d2
      have n3 := Later.cell e3
      have p3 := Later.cell d3
      clear hx hy hb2 hax hay hst hk
      cases hb : Nd.less y.key x.key with
      | true =>
        rw [hb] at hle
        simp only [Bool.not_true] at hle
        go_wp2
        refine wp_region_later (by kernel_rfl) (by kernel_rfl) ?_
        repeat (first | go_big_quiet_step (first | (go_at_call 97; first | exact Calls.later_of (leafKey_is x _) | exact Calls.later_of (leafKey_is y _))) | quiet_step (fail))
        refine wpQuiet_nil ?_
        intro xw
        have hxb := xw.below
        go_wp2_with fail
        go_roundw
        case rel => exact ⟨k + 1, by omega, .inl (by omega), by go_num, fun _ => by rw [HST.out]; exact hb, HBR.out.trans (hxb.mono HBR.out.size)⟩
        case measure => simp [intOf]; omega
      | false =>
        rw [hb] at hle
        simp only [Bool.not_false] at hle
        have HF := Lib.hid (show Nd.risB (es.map (·.key)) = false by rw [HRB.out]; exact Nd.risK_false (HST.out.trans hb) _ (by omega))
        go_wp2
        refine wp_region_later (by kernel_rfl) (by kernel_rfl) ?_
        repeat (first | go_big_quiet_step (first | (go_at_call 97; first | exact Calls.later_of (leafKey_is x _) | exact Calls.later_of (leafKey_is y _))) | quiet_step (fail))
        refine wpQuiet_nil ?_
        intro xw
        have hxb := xw.below
        go_wp2_with fail
        go_ret
        exact ⟨ret_bool HF.out.symm, HBR.out.trans (hxb.mono HBR.out.size)⟩
    · have HT := Lib.hid (show Nd.risB (es.map (·.key)) = true by
        rw [HRB.out]
        by_cases h0 : es.length = 0
        · rw [h0]; rfl
        · have : k = es.length := by omega
          rw [← this]; exact HR.out (by omega))
      have hge : (es.length : Int) ≤ (k : Int) := by omega
      go_wp2_with fail
      go_ret
      exact ⟨ret_bool HT.out.symm, HBR.out⟩

set_option maxRecDepth 100000 in
set_option maxHeartbeats 2000000 in
theorem risingStr_any (es : List ByteArray) (a1 : Option Addr) (c1 : Nat) (w : World) (h1 : RowAt eStr w (.slice a1 es.length c1) es) :
    Calls Tryd.prog 100 #[.slice a1 es.length c1, .func (.func 101) #[] #[]] w fun e w' => e = .returned (.bool (Nd.risB (es))) ∧ Below w.heap.size w w' := by
  have H1 := Lib.hid h1
  have hl1 : es.length ≤ 9223372036854775807 := by
    obtain ⟨a', c', e, q1, q2, _⟩ := h1
    unfold maxLen at q2
    omega
  clear h1
  obtain ⟨ts, hts⟩ : ∃ ts, es = ts := ⟨_, rfl⟩
  have htl : ts.length = es.length := by rw [← hts]
  have hg : ∀ (i : Nat) (x : ByteArray), es[i]? = some x → Nd.atS ts i = x := fun i x hx => Nd.atS_of (by rw [← hts]; exact hx)
  have HG := Lib.hid hg
  have HRB := Lib.hid (show Nd.risB (es) = Nd.risK ts es.length by unfold Nd.risB; rw [hts, htl])
  clear hts hg htl
  go_enter Tryd.func100, Tryd.ntmps100
  go_wp2
  go_loopw [5] (fun i wr => ∃ k : Nat, 1 ≤ k ∧ (k ≤ es.length ∨ k = 1) ∧ i = .int .i64 k ∧ (k ≤ es.length → Nd.risK ts k = true) ∧ Below w.heap.size w wr) (fun i _ => es.length + 1 - (intOf i).toNat)
  case atStart => exact ⟨1, by omega, .inr rfl, rfl, fun _ => by simp [Nd.risK], by first | exact Below.refl _ _ | go_grown⟩
  case round =>
    obtain ⟨k, hk1, hk, rfl, hris, hbr⟩ := hrel
    have HR := Lib.hid hris
    have HBR := Lib.hid hbr
    clear hris
    by_cases hlt : k < es.length
    · obtain ⟨x, hx⟩ := getElem?_some_of_lt hlt
      obtain ⟨y, hy⟩ := getElem?_some_of_lt (show k - 1 < es.length by omega)
      obtain ⟨b1, o1, rfl, e0⟩ := str_cell (H1.out.below HBR.out) hx
      obtain ⟨b2, o2, hb2, d0⟩ := str_cell (H1.out.below HBR.out) hy
      obtain ⟨rfl, rfl⟩ : b1 = b2 ∧ o1 = o2 := by simpa using hb2
      have hlt1 : (k : Int) < (es.length : Int) := by omega
      have hk1i : (1 : Int) ≤ (k : Int) := by omega
      have hax := HG.out k x hx
      have hay := HG.out (k - 1) y hy
      have hst : Nd.risK ts (k + 1) = Nd.less y x := by rw [Nd.risK, HR.out (by omega), hax, hay]; simp; omega
      have hle := Nd.leq_less x y
      have HST := Lib.hid hst
      have n0 := Later.cell e0
      have p0 := Later.cell d0
      clear hx hy hb2 hax hay hst hk
      cases hb : Nd.less y x with
      | true =>
        rw [hb] at hle
        simp only [Bool.not_true] at hle
        go_wp2
        refine wp_region_later (by kernel_rfl) (by kernel_rfl) ?_
        repeat (first | go_big_quiet_step (first | (go_at_call 101; first | exact Calls.later_same (innerKey_is x _) | exact Calls.later_same (innerKey_is y _))) | quiet_step (fail))
        refine wpQuiet_nil ?_
        intro xw
        have hxb := xw.below
        go_wp2_with fail
        go_roundw
        case rel => exact ⟨k + 1, by omega, .inl (by omega), by go_num, fun _ => by rw [HST.out]; exact hb, HBR.out.trans (hxb.mono HBR.out.size)⟩
        case measure => simp [intOf]; omega
      | false =>
        rw [hb] at hle
        simp only [Bool.not_false] at hle
        have HF := Lib.hid (show Nd.risB (es) = false by rw [HRB.out]; exact Nd.risK_false (HST.out.trans hb) _ (by omega))
        go_wp2
        refine wp_region_later (by kernel_rfl) (by kernel_rfl) ?_
        repeat (first | go_big_quiet_step (first | (go_at_call 101; first | exact Calls.later_same (innerKey_is x _) | exact Calls.later_same (innerKey_is y _))) | quiet_step (fail))
        refine wpQuiet_nil ?_
        intro xw
        have hxb := xw.below
        go_wp2_with fail
        go_ret
        exact ⟨ret_bool HF.out.symm, HBR.out.trans (hxb.mono HBR.out.size)⟩
    · have HT := Lib.hid (show Nd.risB (es) = true by
        rw [HRB.out]
        by_cases h0 : es.length = 0
        · rw [h0]; rfl
        · have : k = es.length := by omega
          rw [← this]; exact HR.out (by omega))
      have hge : (es.length : Int) ≤ (k : Int) := by omega
      go_wp2_with fail
      go_ret
      exact ⟨ret_bool HT.out.symm, HBR.out⟩
end Go.Proofs.YtlobelfnjabajaaDoor

/- nodes: leaf -/
namespace Go.Proofs.YtlobelfnjabajaaDoor
open Go.RowKit
set_option linter.unusedVariables false
set_option linter.unusedSimpArgs false

theorem entsK_false {l : List Nd.Ent} {k : Nat} (h : entsK l k = false) : ∀ j, k ≤ j → entsK l j = false := by
  intro j hj
  induction j with
  | zero => obtain rfl : k = 0 := by omega
            exact h
  | succ j ih =>
    by_cases hkj : k = j + 1
    · subst hkj; exact h
    · rw [entsK, ih (by omega)]; rfl
set_option maxRecDepth 100000 in
set_option maxHeartbeats 2000000 in
theorem nodeLeaf_any (lf : Bool) (es : List Nd.Ent) (ks : List ByteArray) (ki : List Int) (a1 a2 a3 : Option Addr) (c1 c2 c3 : Nat) (w : World) (h1 : RowAt eEnt w (.slice a1 es.length c1) es) (h2 : RowAt eStr w (.slice a2 ks.length c2) ks) (h3 : IntsAt w (.slice a3 ki.length c3) ki) (hl2 : ks.length ≤ 1000000) (hl3 : ki.length ≤ 1000000) :
    Calls Tryd.prog 79 #[.agg #[.bool lf, .slice a1 es.length c1, .slice a2 ks.length c2, .slice a3 ki.length c3]] w fun e w' => e = .returned (.bool (entsK es es.length && (decide (ks.length = 0) && (decide (ki.length = 0) && Nd.risB (es.map (·.key)))))) ∧ Below w.heap.size w w' := by
  have H1 := Lib.hid h1
  have hl1 : es.length ≤ 9223372036854775807 := by
    obtain ⟨a', c', e, q1, q2, _⟩ := h1
    unfold maxLen at q2
    omega
  clear h1 h2 h3
  go_enter Tryd.func79, Tryd.ntmps79
  go_upto_region 1 with fail
  refine wp_name fun W hW => ?_
  have HX := Lib.hid (show BoxAt W w.heap.size [.bool lf, .slice a1 es.length c1, .slice a2 ks.length c2, .slice a3 ki.length c3] by rw [hW]; exact BoxAt.new w [_, _, _, _] _)
  have HB := Lib.hid (show Below w.heap.size w W by rw [hW]; go_grown)
  clear hW
  obtain ⟨m0, m1, m2, m3⟩ := HX.out.four
  go_wp2_with fail
  go_loopw [8] (fun i wr => ∃ k : Nat, k ≤ es.length ∧ i = .int .i64 k ∧ entsK es k = true ∧ BoxAt wr w.heap.size [.bool lf, .slice a1 es.length c1, .slice a2 ks.length c2, .slice a3 ki.length c3] ∧ Below w.heap.size w wr) (fun i _ => es.length - (intOf i).toNat)
  case atStart => exact ⟨0, by omega, rfl, rfl, HX.out, HB.out⟩
  case round =>
    obtain ⟨k, hk, rfl, hek, hbx, hbr⟩ := hrel
    have HBX := Lib.hid hbx
    have HBR := Lib.hid hbr
    have HEK := Lib.hid hek
    clear m0 m1 m2 m3 hek
    obtain ⟨m0, m1, m2, m3⟩ := hbx.four
    by_cases hlt : k < es.length
    · obtain ⟨e, he⟩ := getElem?_some_of_lt hlt
      obtain ⟨b1, o1, rfl, e0, e1, e2, e3⟩ := ent_cells (H1.out.below HBR.out) he
      have hlt1 : (k : Int) < (es.length : Int) := by omega
      have HE := Lib.hid he
      clear he
      cases hb : Nd.entB e with
      | true =>
        have HEB := Lib.hid hb
        have HK1 := Lib.hid (show entsK es (k + 1) = true by rw [entsK, HEK.out, HE.out]; exact hb)
        clear hb
        go_wp2_with (go_at_call 95; (refine (nodeEntry_is e _ HEB.out _).mono ?_); (rintro r w1 ⟨rfl, hb1⟩); (have HX1 := Lib.hid ((HBX.out.alloc _).below hb1)); (have HB1 := Lib.hid (below_step (HBR.out.alloc HBR.out.size _) hb1)); (clear hb1))
        go_roundw
        case rel => exact ⟨k + 1, by omega, by go_num, HK1.out, HX1.out, HB1.out⟩
        case measure => simp [intOf]; omega
      | false =>
        have HEB := Lib.hid hb
        have HK1 := Lib.hid (entsK_false (l := es) (k := k + 1) (by rw [entsK, HE.out]; simp only; rw [hb, Bool.and_false]) es.length (by omega))
        clear hb
        go_wp2_with (go_at_call 95; (refine (nodeEntry_is e _ HEB.out _).mono ?_); (rintro r w1 ⟨rfl, hb1⟩); (have HB1 := Lib.hid (below_step (HBR.out.alloc HBR.out.size _) hb1)); (clear hb1))
        go_ret
        exact ⟨ret_bool (by rw [HK1.out]; rfl), HB1.out⟩
    · have hkk : k = es.length := by omega
      subst hkk
      by_cases h0 : ks.length = 0
      · by_cases h0' : ki.length = 0
        · have h0b : (((ks.length : Int) + (ki.length : Int)) == 0) = true := by simp; omega
          have h0c : (ks.length : Int) = 0 := by omega
          have h0d : (ki.length : Int) = 0 := by omega
          go_wp2_with (go_at_call 96; (refine (risingEnt_any es a1 c1 _ (H1.out.below HBR.out)).mono ?_); (rintro r w1 ⟨rfl, hb1⟩); (have HB1 := Lib.hid (below_step HBR.out hb1)); (clear hb1))
          go_ret
          exact ⟨ret_bool (by rw [HEK.out, h0, h0']; simp), HB1.out⟩
        · have h0d : 0 < (ki.length : Int) := by omega
          have h0e : 0 ≤ (ks.length : Int) := by omega
          go_wp2_with fail
          all_goals first
            | (exfalso; omega)
            | (go_ret; exact ⟨ret_bool (by rw [decide_eq_false h0']; simp), HBR.out⟩)
      · have h0d : 0 < (ks.length : Int) := by omega
        have h0e : 0 ≤ (ki.length : Int) := by omega
        go_wp2_with fail
        all_goals first
          | (exfalso; omega)
          | (go_ret; exact ⟨ret_bool (by rw [decide_eq_false h0]; simp), HBR.out⟩)
end Go.Proofs.YtlobelfnjabajaaDoor

/- nodes: slices.Contains; inner -/
namespace Go.Proofs.YtlobelfnjabajaaDoor
open Go.RowKit
set_option linter.unusedVariables false
set_option linter.unusedSimpArgs false

theorem not_mem_take_succ' {l : List Int} {k : Nat} {x n : Int} (h : ¬ n ∈ l.take k) (hx : l[k]? = some x) (hne : x ≠ n) : ¬ n ∈ l.take (k + 1) := by
  rw [List.take_add_one, hx]
  intro hm
  rcases List.mem_append.1 hm with h1 | h1
  · exact h h1
  · simp at h1; exact hne h1.symm
set_option maxRecDepth 100000 in
theorem index_any (v : Value) (l : List Int) (n : Int) (w : World) (h : IntsAt w v l) :
    Calls Tryd.prog 117 #[v, .int .i64 n] w fun e w' => (∃ i : Int, e = .returned (.int .i64 i) ∧ ((n ∈ l ∧ 0 ≤ i) ∨ (¬ n ∈ l ∧ i = -1))) ∧ Below w.heap.size w w' := by
  obtain ⟨a1, c1, rfl, hlc1, hcm1, hl1⟩ := h
  unfold maxLen at hcm1
  have HL1 := Lib.hid hl1
  clear hl1
  go_enter Tryd.func117, Tryd.ntmps117
  go_wp2
  go_loop [8] (fun i => ∃ k : Nat, k ≤ l.length ∧ i = .int .i64 k ∧ ¬ n ∈ l.take k) (fun i => l.length - (intOf i).toNat)
  case atStart => exact ⟨0, by omega, rfl, by simp⟩
  case round =>
    obtain ⟨k, hk, rfl, hnm⟩ := hrel
    have HN := Lib.hid hnm
    clear hnm
    by_cases hlt : k < l.length
    · obtain ⟨x, hx⟩ := getElem?_some_of_lt hlt
      rcases HL1.out with hn | ⟨b1, o1, rfl, hc1⟩
      · rw [hn] at hlt; simp at hlt
      have hcx := hc1 k x hx
      have HX := Lib.hid hx
      have hlt1 : (k : Int) < (l.length : Int) := by omega
      clear hx hc1
      by_cases hxn : n = x
      · have hb : (n == x) = true := by simpa using hxn
        have HM := Lib.hid (show n ∈ l by rw [hxn]; exact List.mem_of_getElem? HX.out)
        clear hxn
        go_wp2
        go_ret
        exact ⟨⟨_, rfl, .inl ⟨HM.out, by omega⟩⟩, Below.refl _ _⟩
      · have hb : (n == x) = false := by simpa using hxn
        have HNE := Lib.hid (fun e : x = n => hxn e.symm)
        clear hxn
        go_wp2
        go_round
        case rel => exact ⟨k + 1, by omega, by go_num, not_mem_take_succ' HN.out HX.out HNE.out⟩
        case measure => simp [intOf]; omega
    · have hkk : k = l.length := by omega
      subst hkk
      have HM := Lib.hid (show ¬ n ∈ l by have := HN.out; rwa [List.take_length] at this)
      go_wp2
      go_ret
      exact ⟨⟨_, rfl, .inr ⟨HM.out, rfl⟩⟩, Below.refl _ _⟩
theorem contains_is (v : Value) (l : List Int) (n : Int) (B : Bool) (hB : decide (n ∈ l) = B) (w : World) (h : IntsAt w v l) :
    Calls Tryd.prog 99 #[v, .int .i64 n] w fun e w' => e = .returned (.bool B) ∧ Below w.heap.size w w' := by
  have H := Lib.hid h
  have HB := Lib.hid hB
  clear hB
  obtain ⟨a1, c1, rfl, -, -, -⟩ := h
  go_enter Tryd.func99, Tryd.ntmps99
  go_wp2_with (go_at_call 117; (refine (index_any _ l n _ H.out).mono ?_); (rintro e w1 ⟨⟨i, rfl, hi⟩, hb1⟩); (have HI := Lib.hid hi); (have HB1 := Lib.hid hb1); (clear hi hb1))
  go_ret
  refine ⟨ret_bool ?_, HB1.out⟩
  rw [← HB.out]
  rcases HI.out with ⟨h1, h2⟩ | ⟨h1, h2⟩
  · rw [decide_eq_true h1]; simpa using h2
  · rw [decide_eq_false h1]; simp; omega
/-! ### inner -/
def kidsK (l : List Int) : Nat → Bool
  | 0 => true
  | k + 1 => kidsK l k && (match l[k]? with | some n => Nd.kidB n && !decide (n ∈ l.take k) | none => true)
def keysK (l : List ByteArray) : Nat → Bool
  | 0 => true
  | k + 1 => keysK l k && (match l[k]? with | some s => Nd.keyB s | none => true)
theorem kidsK_false {l : List Int} {k : Nat} (h : kidsK l k = false) : ∀ j, k ≤ j → kidsK l j = false := by
  intro j hj
  induction j with
  | zero => obtain rfl : k = 0 := by omega
            exact h
  | succ j ih =>
    by_cases hkj : k = j + 1
    · subst hkj; exact h
    · rw [kidsK, ih (by omega)]; rfl
theorem keysK_false {l : List ByteArray} {k : Nat} (h : keysK l k = false) : ∀ j, k ≤ j → keysK l j = false := by
  intro j hj
  induction j with
  | zero => obtain rfl : k = 0 := by omega
            exact h
  | succ j ih =>
    by_cases hkj : k = j + 1
    · subst hkj; exact h
    · rw [keysK, ih (by omega)]; rfl
def innerB (es : List Nd.Ent) (ks : List ByteArray) (ki : List Int) : Bool :=
  decide (es.length = 0 ∧ 2 ≤ ki.length ∧ ki.length = ks.length + 1 ∧ ki.length ≤ 256) && (kidsK ki ki.length && (keysK ks ks.length && Nd.risB ks))
end Go.Proofs.YtlobelfnjabajaaDoor

/- nodes: inner -/
namespace Go.Proofs.YtlobelfnjabajaaDoor
open Go.RowKit
set_option linter.unusedVariables false
set_option linter.unusedSimpArgs false

set_option maxRecDepth 100000 in
set_option maxHeartbeats 4000000 in
theorem nodeInner_any (lf : Bool) (es : List Nd.Ent) (ks : List ByteArray) (ki : List Int) (a1 a2 a3 : Option Addr) (c1 c2 c3 : Nat) (w : World) (h1 : RowAt eEnt w (.slice a1 es.length c1) es) (h2 : RowAt eStr w (.slice a2 ks.length c2) ks) (h3 : IntsAt w (.slice a3 ki.length c3) ki) (hl1 : es.length ≤ 1000000) (hl2 : ks.length ≤ 1000000) (hl3 : ki.length ≤ 1000000) :
    Calls Tryd.prog 80 #[.agg #[.bool lf, .slice a1 es.length c1, .slice a2 ks.length c2, .slice a3 ki.length c3]] w fun e w' => e = .returned (.bool (innerB es ks ki)) ∧ Below w.heap.size w w' := by
  have H2 := Lib.hid h2
  have H3 := Lib.hid h3
  have hc3 : ki.length ≤ c3 := by
    obtain ⟨a', c', e, q1, q2, _⟩ := h3
    obtain ⟨rfl, rfl⟩ : a3 = a' ∧ c3 = c' := by injection e with e1 e2 e3; exact ⟨e1, e3⟩
    exact q1
  clear h1 h2 h3
  have HI := Lib.hid (show innerB es ks ki = (decide (es.length = 0 ∧ 2 ≤ ki.length ∧ ki.length = ks.length + 1 ∧ ki.length ≤ 256) && (kidsK ki ki.length && (keysK ks ks.length && Nd.risB ks))) from rfl)
  by_cases d1 : 0 < es.length
  · have HF := Lib.hid (show innerB es ks ki = false by rw [HI.out, decide_eq_false (by omega)]; rfl)
    have d1i : 0 < (es.length : Int) := by omega
    go_enter Tryd.func80, Tryd.ntmps80
    go_wp2
    go_ret
    exact ⟨ret_bool HF.out.symm, by go_grown⟩
  have d1i : (es.length : Int) ≤ 0 := by omega
  by_cases d2 : ki.length < 2
  · have HF := Lib.hid (show innerB es ks ki = false by rw [HI.out, decide_eq_false (by omega)]; rfl)
    have d2i : (ki.length : Int) < 2 := by omega
    go_enter Tryd.func80, Tryd.ntmps80
    go_wp2
    go_ret
    exact ⟨ret_bool HF.out.symm, by go_grown⟩
  have d2i : 2 ≤ (ki.length : Int) := by omega
  by_cases d3 : ki.length = ks.length + 1
  · have d3b : ((ki.length : Int) != (ks.length : Int) + 1) = false := by simp; omega
    by_cases d4 : 256 < ki.length
    · have HF := Lib.hid (show innerB es ks ki = false by rw [HI.out, decide_eq_false (by omega)]; rfl)
      have d4i : 256 < (ki.length : Int) := by omega
      go_enter Tryd.func80, Tryd.ntmps80
      go_wp2
      go_ret
      exact ⟨ret_bool HF.out.symm, by go_grown⟩
    have d4i : (ki.length : Int) ≤ 256 := by omega
    obtain rfl : es = [] := List.eq_nil_of_length_eq_zero (by omega)
    rw [List.length_nil]
    have HG := Lib.hid (show innerB [] ks ki = (kidsK ki ki.length && (keysK ks ks.length && Nd.risB ks)) by rw [HI.out, decide_eq_true ⟨rfl, by omega, d3, by omega⟩]; rfl)
    clear d1 d1i d2 d3 d4 HI
    go_enter Tryd.func80, Tryd.ntmps80
    go_upto_region 3 with fail
    refine wp_name fun W hW => ?_
    have HX := Lib.hid (show BoxAt W w.heap.size [.bool lf, .slice a1 0 c1, .slice a2 ks.length c2, .slice a3 ki.length c3] by rw [hW]; exact BoxAt.new w [_, _, _, _] _)
    have HB := Lib.hid (show Below w.heap.size w W by rw [hW]; go_grown)
    clear hW
    obtain ⟨m0, m1, m2, m3⟩ := HX.out.four
    go_wp2_with fail
    go_loopw [36] (fun i wr => ∃ k : Nat, k ≤ ki.length ∧ i = .int .i64 k ∧ kidsK ki k = true ∧ BoxAt wr w.heap.size [.bool lf, .slice a1 0 c1, .slice a2 ks.length c2, .slice a3 ki.length c3] ∧ Below w.heap.size w wr) (fun i _ => ki.length - (intOf i).toNat)
    case atStart => exact ⟨0, by omega, rfl, rfl, HX.out, HB.out⟩
    case round =>
      obtain ⟨k, hk, rfl, hek, hbx, hbr⟩ := hrel
      have HBX := Lib.hid hbx
      have HBR := Lib.hid hbr
      have HEK := Lib.hid hek
      clear m0 m1 m2 m3 hek
      obtain ⟨m0, m1, m2, m3⟩ := hbx.four
      by_cases hlt : k < ki.length
      · obtain ⟨x, hx⟩ := getElem?_some_of_lt hlt
        obtain ⟨aa, cc, e3, q1, q2, q3⟩ := H3.out
        obtain ⟨rfl, rfl⟩ : a3 = aa ∧ c3 = cc := by injection e3 with e1 e2 e3; exact ⟨e1, e3⟩
        rcases q3 with hn | ⟨b1, o1, rfl, hc1⟩
        · rw [hn] at hlt; simp at hlt
        have hcx : wr.cell? ⟨b1, o1 + k, none⟩ = some (.int .i64 x) := (hbr.cell (World.block_lt_of_cell? w _ (hc1 k x hx))).trans (hc1 k x hx)
        have HTK := Lib.hid ((H3.out.take (Nat.le_of_lt hlt)).below HBR.out)
        have hlt1 : (k : Int) < (ki.length : Int) := by omega
        have hkl : k ≤ c3 := by omega
        have htl : (ki.take k).length = k := by rw [List.length_take]; omega
        have hst : kidsK ki (k + 1) = (Nd.kidB x && !decide (x ∈ ki.take k)) := by rw [kidsK, HEK.out, hx]; rfl
        have HST := Lib.hid hst
        clear hx hc1 e3 q1 q2 hst htl
        cases hb1 : Nd.kidB x with
        | false =>
          have HKB := Lib.hid hb1
          have HF := Lib.hid (show innerB [] ks ki = false by rw [HG.out, kidsK_false (k := k + 1) (by rw [HST.out, hb1]; rfl) _ (by omega)]; rfl)
          clear hb1
          go_wp2_with (go_at_call 98; (refine (nodeKid_is x _ HKB.out _).mono ?_); (rintro r w1 ⟨rfl, rfl⟩))
          go_ret
          exact ⟨ret_bool HF.out.symm, HBR.out⟩
        | true =>
          have HKB := Lib.hid hb1
          cases hb2 : decide (x ∈ ki.take k) with
          | true =>
            have HKC := Lib.hid hb2
            have HF := Lib.hid (show innerB [] ks ki = false by rw [HG.out, kidsK_false (k := k + 1) (by rw [HST.out, hb1, hb2]; rfl) _ (by omega)]; rfl)
            clear hb1 hb2
            go_wp2_with (first
              | (go_at_call 98; (refine (nodeKid_is x _ HKB.out _).mono ?_); (rintro r w1 ⟨rfl, rfl⟩))
              | (go_at_call 99; (refine (contains_is _ (ki.take k) x _ HKC.out _ HTK.out).mono ?_); (rintro r w1 ⟨rfl, hb⟩); (have HB1 := Lib.hid (below_step HBR.out hb)); (clear hb)))
            go_ret
            exact ⟨ret_bool HF.out.symm, HB1.out⟩
          | false =>
            have HKC := Lib.hid hb2
            have HK1 := Lib.hid (show kidsK ki (k + 1) = true by rw [HST.out, hb1, hb2]; rfl)
            clear hb1 hb2
            go_wp2_with (first
              | (go_at_call 98; (refine (nodeKid_is x _ HKB.out _).mono ?_); (rintro r w1 ⟨rfl, rfl⟩))
              | (go_at_call 99; (refine (contains_is _ (ki.take k) x _ HKC.out _ HTK.out).mono ?_); (rintro r w1 ⟨rfl, hb⟩); (have HB1 := Lib.hid (below_step HBR.out hb)); (have HX1 := Lib.hid (HBX.out.below hb)); (clear hb)))
            go_roundw
            case rel => exact ⟨k + 1, by omega, by go_num, HK1.out, HX1.out, HB1.out⟩
            case measure => simp [intOf]; omega
      · have hkk : k = ki.length := by omega
        subst hkk
        have HG2 := Lib.hid (show innerB [] ks ki = (keysK ks ks.length && Nd.risB ks) by rw [HG.out, HEK.out]; rfl)
        go_wp2_with fail
        have HXa := HBX
        have HBa := HBR
        clear HBX HBR HEK HX HB
        go_loopw [56] (fun i wr' => ∃ k : Nat, k ≤ ks.length ∧ i = .int .i64 k ∧ keysK ks k = true ∧ BoxAt wr' w.heap.size [.bool lf, .slice a1 0 c1, .slice a2 ks.length c2, .slice a3 ki.length c3] ∧ Below w.heap.size w wr') (fun i _ => ks.length - (intOf i).toNat)
        case atStart => exact ⟨0, by omega, rfl, rfl, HXa.out, HBa.out⟩
        case round =>
          obtain ⟨k, hk, rfl, hek, hbx, hbr⟩ := hrel
          have HBX := Lib.hid hbx
          have HBR := Lib.hid hbr
          have HEK := Lib.hid hek
          clear m0 m1 m2 m3 hek
          obtain ⟨m0, m1, m2, m3⟩ := hbx.four
          by_cases hlt2 : k < ks.length
          · obtain ⟨x, hx⟩ := getElem?_some_of_lt hlt2
            obtain ⟨b1, o1, rfl, e0⟩ := str_cell (H2.out.below HBR.out) hx
            have hlt1 : (k : Int) < (ks.length : Int) := by omega
            have HE := Lib.hid hx
            clear hx
            cases hb : Nd.keyB x with
            | true =>
              have HEB := Lib.hid hb
              have HK1 := Lib.hid (show keysK ks (k + 1) = true by rw [keysK, HEK.out, HE.out]; exact hb)
              clear hb
              go_wp2_with (go_at_call 21; (refine (nodeKey_is x _ HEB.out _).mono ?_); (rintro r w1 ⟨rfl, rfl⟩))
              go_roundw
              case rel => exact ⟨k + 1, by omega, by go_num, HK1.out, HBX.out, HBR.out⟩
              case measure => simp [intOf]; omega
            | false =>
              have HEB := Lib.hid hb
              have HK1 := Lib.hid (keysK_false (l := ks) (k := k + 1) (by rw [keysK, HE.out]; simp only; rw [hb, Bool.and_false]) ks.length (by omega))
              clear hb
              go_wp2_with (go_at_call 21; (refine (nodeKey_is x _ HEB.out _).mono ?_); (rintro r w1 ⟨rfl, rfl⟩))
              go_ret
              exact ⟨ret_bool (by rw [HG2.out, HK1.out]; rfl), HBR.out⟩
          · have hkk : k = ks.length := by omega
            subst hkk
            go_wp2_with (go_at_call 100; (refine (risingStr_any ks a2 c2 _ (H2.out.below HBR.out)).mono ?_); (rintro r w1 ⟨rfl, hb1⟩); (have HB1 := Lib.hid (below_step HBR.out hb1)); (clear hb1))
            go_ret
            exact ⟨ret_bool (by rw [HG2.out, HEK.out]; rfl), HB1.out⟩
  · obtain rfl : es = [] := List.eq_nil_of_length_eq_zero (by omega)
    rw [List.length_nil]
    have HF := Lib.hid (show innerB [] ks ki = false by rw [HI.out, decide_eq_false (by omega)]; rfl)
    have d3b : ((ki.length : Int) != (ks.length : Int) + 1) = true := by simp; omega
    clear d1 d1i d2 HI hl1
    go_enter Tryd.func80, Tryd.ntmps80
    go_wp2
    go_ret
    exact ⟨ret_bool HF.out.symm, by go_grown⟩
end Go.Proofs.YtlobelfnjabajaaDoor
