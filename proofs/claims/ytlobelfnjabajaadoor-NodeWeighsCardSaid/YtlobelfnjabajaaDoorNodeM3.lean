/- merged: Node8, Node9, Node10, Node11, Node12 -/
import Derived.Test.YtlobelfnjabajaaDoorNodeM2
import Derived.Test.YtlobelfnjabajaaDoorPage
import Derived.Test.YtlobelfnjabajaaDoorPageSeal
import Derived.Test.YtlobelfnjabajaaDoorPageOpen
/- nodes: Check -/
namespace Go.Proofs.YtlobelfnjabajaaDoor
open Go.RowKit
set_option linter.unusedVariables false
set_option linter.unusedSimpArgs false

/-- is a leaf right? -/
def leafB (es : List Nd.Ent) (ks : List ByteArray) (ki : List Int) : Bool :=
  entsK es es.length && (decide (ks.length = 0) && (decide (ki.length = 0) && Nd.risB (es.map (·.key))))
/-- is a node right? -/
def nodeB (lf : Bool) (es : List Nd.Ent) (ks : List ByteArray) (ki : List Int) : Bool :=
  (if lf then leafB es ks ki else innerB es ks ki) && decide (es.length ≤ 65535)
/-- the error of a check: no error, or one of code 1 -/
def nodeErr (lf : Bool) (es : List Nd.Ent) (ks : List ByteArray) (ki : List Int) : List Int × Nat := if nodeB lf es ks ki then ([], 0) else ([-1], 1)

theorem nodeLeaf_is (lf : Bool) (es : List Nd.Ent) (ks : List ByteArray) (ki : List Int) (B : Bool) (hB : leafB es ks ki = B) (a1 a2 a3 : Option Addr) (c1 c2 c3 : Nat) (w : World) (h1 : RowAt eEnt w (.slice a1 es.length c1) es) (h2 : RowAt eStr w (.slice a2 ks.length c2) ks) (h3 : IntsAt w (.slice a3 ki.length c3) ki) (hl2 : ks.length ≤ 1000000) (hl3 : ki.length ≤ 1000000) :
    Calls Tryd.prog 79 #[.agg #[.bool lf, .slice a1 es.length c1, .slice a2 ks.length c2, .slice a3 ki.length c3]] w fun e w' => e = .returned (.bool B) ∧ Below w.heap.size w w' := by
  subst hB
  exact nodeLeaf_any lf es ks ki a1 a2 a3 c1 c2 c3 w h1 h2 h3 hl2 hl3
theorem nodeInner_is (lf : Bool) (es : List Nd.Ent) (ks : List ByteArray) (ki : List Int) (B : Bool) (hB : innerB es ks ki = B) (a1 a2 a3 : Option Addr) (c1 c2 c3 : Nat) (w : World) (h1 : RowAt eEnt w (.slice a1 es.length c1) es) (h2 : RowAt eStr w (.slice a2 ks.length c2) ks) (h3 : IntsAt w (.slice a3 ki.length c3) ki) (hl1 : es.length ≤ 1000000) (hl2 : ks.length ≤ 1000000) (hl3 : ki.length ≤ 1000000) :
    Calls Tryd.prog 80 #[.agg #[.bool lf, .slice a1 es.length c1, .slice a2 ks.length c2, .slice a3 ki.length c3]] w fun e w' => e = .returned (.bool B) ∧ Below w.heap.size w w' := by
  subst hB
  exact nodeInner_any lf es ks ki a1 a2 a3 c1 c2 c3 w h1 h2 h3 hl1 hl2 hl3

set_option maxRecDepth 100000 in
set_option maxHeartbeats 2000000 in
theorem nodeCheck_any {S : Nat → Prop} [Has S 1] (lf : Bool) (es : List Nd.Ent) (ks : List ByteArray) (ki : List Int) (a1 a2 a3 : Option Addr) (c1 c2 c3 : Nat) (w : World) (A : Nat → Addr) (hs : SentsOn S w A) (h1 : RowAt eEnt w (.slice a1 es.length c1) es) (h2 : RowAt eStr w (.slice a2 ks.length c2) ks) (h3 : IntsAt w (.slice a3 ki.length c3) ki) (hl1 : es.length ≤ 1000000) (hl2 : ks.length ≤ 1000000) (hl3 : ki.length ≤ 1000000) :
    Calls Tryd.prog 39 #[.agg #[.bool lf, .slice a1 es.length c1, .slice a2 ks.length c2, .slice a3 ki.length c3]] w fun e w' => IsFault A w.heap.size (nodeErr lf es ks ki).1 (nodeErr lf es ks ki).2 e w' ∧ Below w.heap.size w w' := by
  have g1 : w.cell? ⟨0, 0, none⟩ = some (.iface 189 (.pointer (some (A 1)))) := hs.cell 1 (by decide) (by decide)
  have l1 := World.block_lt_of_cell? w _ g1
  simp only at l1
  have H1 := Lib.hid h1
  have H2 := Lib.hid h2
  have H3 := Lib.hid h3
  have L1 := Lib.hid l1
  have G1 := Lib.hid g1
  clear h1 h2 h3 hs l1 g1
  go_enter Tryd.func39, Tryd.ntmps39
  go_upto_region 1 with fail
  refine wp_name fun W hW => ?_
  have HX := Lib.hid (show BoxAt W w.heap.size [.bool lf, .slice a1 es.length c1, .slice a2 ks.length c2, .slice a3 ki.length c3] by rw [hW]; exact BoxAt.new w [_, _, _, _] _)
  have HB := Lib.hid (show Below w.heap.size w W by rw [hW]; go_grown)
  clear hW
  obtain ⟨m0, m1, m2, m3⟩ := HX.out.four
  have hN := Lib.hid (show nodeErr lf es ks ki = if ((if lf then leafB es ks ki else innerB es ks ki) && decide (es.length ≤ 65535)) then ([], 0) else ([-1], 1) from rfl)
  cases lf with
  | true =>
    cases hb : leafB es ks ki with
    | true =>
      have hb' := Lib.hid hb
      by_cases d : 65535 < es.length
      · have hE := Lib.hid (show nodeErr true es ks ki = ([-1], 1) by rw [hN.out, hb]; simp; omega)
        have di : (65535 : Int) < (es.length : Int) := by omega
        clear hb hN
        go_wp2_with (first
          | (go_at_call 79; (refine (nodeLeaf_is true es ks ki _ hb'.out a1 a2 a3 c1 c2 c3 _ (H1.out.below HB.out) (H2.out.below HB.out) (H3.out.below HB.out) hl2 hl3).mono ?_); (rintro r w1 ⟨rfl, hb1⟩); (have HX1 := Lib.hid (HX.out.below hb1)); (have HB1 := Lib.hid (below_step HB.out hb1)); (obtain ⟨n0, n1, n2, n3⟩ := HX1.out.four); (have g2 := (HB1.out.cell (p := ⟨0, 0, none⟩) L1.out).trans G1.out); (clear hb1))
          | (go_at_call 55; (refine (faultNew_any _ 1 _ _ A _ (sent_err 1 (by decide) (by decide)) (by decide) (Nat.le_refl _)).mono ?_); (rintro e w2 ⟨⟨v, rfl, hv⟩, hb2⟩)))
        go_ret
        exact ⟨⟨_, rfl, by rw [hE.out]; exact hv.mono (by have := HB1.out.size; simp; omega)⟩, HB1.out.trans (hb2.mono (by have := HB1.out.size; simp; omega))⟩
      · have hE := Lib.hid (show nodeErr true es ks ki = ([], 0) by rw [hN.out, hb]; simp; omega)
        have di : (es.length : Int) ≤ 65535 := by omega
        clear hb hN
        go_wp2_with (first
          | (go_at_call 79; (refine (nodeLeaf_is true es ks ki _ hb'.out a1 a2 a3 c1 c2 c3 _ (H1.out.below HB.out) (H2.out.below HB.out) (H3.out.below HB.out) hl2 hl3).mono ?_); (rintro r w1 ⟨rfl, hb1⟩); (have HX1 := Lib.hid (HX.out.below hb1)); (have HB1 := Lib.hid (below_step HB.out hb1)); (obtain ⟨n0, n1, n2, n3⟩ := HX1.out.four); (have g2 := (HB1.out.cell (p := ⟨0, 0, none⟩) L1.out).trans G1.out); (clear hb1))
          | fail)
        go_ret
        exact ⟨⟨_, rfl, by rw [hE.out]; exact ErrIs.nil _ _ _⟩, HB1.out⟩
    | false =>
      have hb' := Lib.hid hb
      have hE := Lib.hid (show nodeErr true es ks ki = ([-1], 1) by rw [hN.out, hb]; rfl)
      clear hb hN
      go_wp2_with (first
        | (go_at_call 79; (refine (nodeLeaf_is true es ks ki _ hb'.out a1 a2 a3 c1 c2 c3 _ (H1.out.below HB.out) (H2.out.below HB.out) (H3.out.below HB.out) hl2 hl3).mono ?_); (rintro r w1 ⟨rfl, hb1⟩); (have HX1 := Lib.hid (HX.out.below hb1)); (have HB1 := Lib.hid (below_step HB.out hb1)); (obtain ⟨n0, n1, n2, n3⟩ := HX1.out.four); (have g2 := (HB1.out.cell (p := ⟨0, 0, none⟩) L1.out).trans G1.out); (clear hb1))
        | (go_at_call 55; (refine (faultNew_any _ 1 _ _ A _ (sent_err 1 (by decide) (by decide)) (by decide) (Nat.le_refl _)).mono ?_); (rintro e w2 ⟨⟨v, rfl, hv⟩, hb2⟩)))
      go_ret
      exact ⟨⟨_, rfl, by rw [hE.out]; exact hv.mono (by have := HB1.out.size; simp; omega)⟩, HB1.out.trans (hb2.mono (by have := HB1.out.size; simp; omega))⟩
  | false =>
    cases hb : innerB es ks ki with
    | true =>
      have hb' := Lib.hid hb
      by_cases d : 65535 < es.length
      · have hE := Lib.hid (show nodeErr false es ks ki = ([-1], 1) by rw [hN.out, hb]; simp; omega)
        have di : (65535 : Int) < (es.length : Int) := by omega
        clear hb hN
        go_wp2_with (first
          | (go_at_call 80; (refine (nodeInner_is false es ks ki _ hb'.out a1 a2 a3 c1 c2 c3 _ (H1.out.below HB.out) (H2.out.below HB.out) (H3.out.below HB.out) hl1 hl2 hl3).mono ?_); (rintro r w1 ⟨rfl, hb1⟩); (have HX1 := Lib.hid (HX.out.below hb1)); (have HB1 := Lib.hid (below_step HB.out hb1)); (obtain ⟨n0, n1, n2, n3⟩ := HX1.out.four); (have g2 := (HB1.out.cell (p := ⟨0, 0, none⟩) L1.out).trans G1.out); (clear hb1))
          | (go_at_call 55; (refine (faultNew_any _ 1 _ _ A _ (sent_err 1 (by decide) (by decide)) (by decide) (Nat.le_refl _)).mono ?_); (rintro e w2 ⟨⟨v, rfl, hv⟩, hb2⟩)))
        go_ret
        exact ⟨⟨_, rfl, by rw [hE.out]; exact hv.mono (by have := HB1.out.size; simp; omega)⟩, HB1.out.trans (hb2.mono (by have := HB1.out.size; simp; omega))⟩
      · have hE := Lib.hid (show nodeErr false es ks ki = ([], 0) by rw [hN.out, hb]; simp; omega)
        have di : (es.length : Int) ≤ 65535 := by omega
        clear hb hN
        go_wp2_with (first
          | (go_at_call 80; (refine (nodeInner_is false es ks ki _ hb'.out a1 a2 a3 c1 c2 c3 _ (H1.out.below HB.out) (H2.out.below HB.out) (H3.out.below HB.out) hl1 hl2 hl3).mono ?_); (rintro r w1 ⟨rfl, hb1⟩); (have HX1 := Lib.hid (HX.out.below hb1)); (have HB1 := Lib.hid (below_step HB.out hb1)); (obtain ⟨n0, n1, n2, n3⟩ := HX1.out.four); (have g2 := (HB1.out.cell (p := ⟨0, 0, none⟩) L1.out).trans G1.out); (clear hb1))
          | fail)
        go_ret
        exact ⟨⟨_, rfl, by rw [hE.out]; exact ErrIs.nil _ _ _⟩, HB1.out⟩
    | false =>
      have hb' := Lib.hid hb
      have hE := Lib.hid (show nodeErr false es ks ki = ([-1], 1) by rw [hN.out, hb]; rfl)
      clear hb hN
      go_wp2_with (first
        | (go_at_call 80; (refine (nodeInner_is false es ks ki _ hb'.out a1 a2 a3 c1 c2 c3 _ (H1.out.below HB.out) (H2.out.below HB.out) (H3.out.below HB.out) hl1 hl2 hl3).mono ?_); (rintro r w1 ⟨rfl, hb1⟩); (have HX1 := Lib.hid (HX.out.below hb1)); (have HB1 := Lib.hid (below_step HB.out hb1)); (obtain ⟨n0, n1, n2, n3⟩ := HX1.out.four); (have g2 := (HB1.out.cell (p := ⟨0, 0, none⟩) L1.out).trans G1.out); (clear hb1))
        | (go_at_call 55; (refine (faultNew_any _ 1 _ _ A _ (sent_err 1 (by decide) (by decide)) (by decide) (Nat.le_refl _)).mono ?_); (rintro e w2 ⟨⟨v, rfl, hv⟩, hb2⟩)))
      go_ret
      exact ⟨⟨_, rfl, by rw [hE.out]; exact hv.mono (by have := HB1.out.size; simp; omega)⟩, HB1.out.trans (hb2.mono (by have := HB1.out.size; simp; omega))⟩
end Go.Proofs.YtlobelfnjabajaaDoor

/- nodes: Weight, of a leaf -/
namespace Go.Proofs.YtlobelfnjabajaaDoor
open Go.RowKit
set_option linter.unusedVariables false
set_option linter.unusedSimpArgs false

/-- the bytes of an entry -/
def entW (e : Nd.Ent) : Nat := 2 + e.key.size + (if e.chain = 0 then 1 + e.value.size else 8)
/-- the bytes of the first k entries -/
def entsW (l : List Nd.Ent) : Nat → Nat
  | 0 => 0
  | k + 1 => entsW l k + (match l[k]? with | some e => entW e | none => 0)
theorem entsW_le {l : List Nd.Ent} (h : ∀ (k : Nat) (e : Nd.Ent), l[k]? = some e → e.key.size ≤ 32 ∧ e.value.size ≤ 24) : ∀ k, entsW l k ≤ 100 * k
  | 0 => Nat.le_refl _
  | k + 1 => by
    rw [entsW]
    have ih := entsW_le h k
    cases hk : l[k]? with
    | none => simp only; omega
    | some e =>
      have := h k e hk
      simp only [entW]
      split <;> omega

set_option maxRecDepth 100000 in
set_option maxHeartbeats 2000000 in
theorem nodeWeight_leaf (es : List Nd.Ent) (v3 : Value) (a1 a2 : Option Addr) (c1 c2 : Nat) (w : World) (h1 : RowAt eEnt w (.slice a1 es.length c1) es) (hl1 : es.length ≤ 1000000) (hle : ∀ (k : Nat) (e : Nd.Ent), es[k]? = some e → e.key.size ≤ 32 ∧ e.value.size ≤ 24) :
    Calls Tryd.prog 26 #[.agg #[.bool true, .slice a1 es.length c1, .slice a2 0 c2, v3]] w fun e w' => e = .returned (.int .i64 ((2 + entsW es es.length : Nat) : Int)) ∧ Below w.heap.size w w' := by
  have H1 := Lib.hid h1
  have HLE := Lib.hid hle
  clear h1 hle
  go_enter Tryd.func26, Tryd.ntmps26
  go_upto_region 1 with fail
  refine wp_name fun W hW => ?_
  have HX := Lib.hid (show BoxAt W w.heap.size [.bool true, .slice a1 es.length c1, .slice a2 0 c2, v3] by rw [hW]; exact BoxAt.new w [_, _, _, _] _)
  have HB := Lib.hid (show Below w.heap.size w W by rw [hW]; go_grown)
  clear hW
  obtain ⟨m0, m1, m2, m3⟩ := HX.out.four
  go_wp2_with fail
  go_loopw [3, 16] (fun v i wr => ∃ k : Nat, k ≤ es.length ∧ i = .int .i64 k ∧ v = .int .i64 ((2 + entsW es k : Nat) : Int) ∧ BoxAt wr w.heap.size [.bool true, .slice a1 es.length c1, .slice a2 0 c2, v3] ∧ Below w.heap.size w wr) (fun _ i _ => es.length - (intOf i).toNat)
  case atStart => exact ⟨0, by omega, rfl, rfl, HX.out, HB.out⟩
  case round =>
    obtain ⟨k, hk, rfl, rfl, hbx, hbr⟩ := hrel
    have HBX := Lib.hid hbx
    have HBR := Lib.hid hbr
    clear m0 m1 m2 m3
    obtain ⟨m0, m1, m2, m3⟩ := hbx.four
    by_cases hlt : k < es.length
    · obtain ⟨e, he⟩ := getElem?_some_of_lt hlt
      obtain ⟨b1, o1, rfl, e0, e1, e2, e3⟩ := ent_cells (H1.out.below HBR.out) he
      obtain ⟨z1, z2⟩ := HLE.out k e he
      have hlt1 : (k : Int) < (es.length : Int) := by omega
      have HW := Lib.hid (show entsW es (k + 1) = entsW es k + entW e by rw [entsW, he])
      have hq := entsW_le HLE.out k
      generalize hQ : entsW es k = q at *
      have HE := Lib.hid he
      have HEW := Lib.hid (show entW e = 2 + e.key.size + (if e.chain = 0 then 1 + e.value.size else 8) from rfl)
      clear he
      by_cases hc : e.chain = 0
      · go_wp2_with fail
        go_roundw
        case rel => exact ⟨k + 1, by omega, by go_num, by rw [HW.out, HEW.out, if_pos hc]; go_num, (HBX.out.alloc _), HBR.out.alloc HBR.out.size _⟩
        case measure => simp [intOf]; omega
      · go_wp2_with fail
        go_roundw
        case rel => exact ⟨k + 1, by omega, by go_num, by rw [HW.out, HEW.out, if_neg hc]; go_num, (HBX.out.alloc _), HBR.out.alloc HBR.out.size _⟩
        case measure => simp [intOf]; omega
    · have hkk : k = es.length := by omega
      subst hkk
      go_wp2_with fail
      go_loopw [3, 41] (fun v i wr' => i = .int .i64 0 ∧ v = .int .i64 ((2 + entsW es es.length : Nat) : Int) ∧ Below w.heap.size w wr') (fun _ _ _ => 0)
      case atStart => exact ⟨rfl, rfl, HBR.out⟩
      case round =>
        obtain ⟨rfl, rfl, hbr2⟩ := hrel
        have HBR2 := Lib.hid hbr2
        go_wp2_with fail
        go_ret
        exact ⟨rfl, HBR2.out⟩
end Go.Proofs.YtlobelfnjabajaaDoor

/- nodes: a writer's num -/
namespace Go.Proofs.YtlobelfnjabajaaDoor
open Go.RowKit
set_option linter.unusedVariables false
set_option linter.unusedSimpArgs false

/-- a writer without an error: its bytes lie in a row of its own -/
def WrAt (w : World) (g : Nat) (l : List UInt8) : Prop := ∃ a c, BoxAt w g [.slice a l.length c, .nilIface] ∧ Own w (g + 1) (.slice a l.length c) l

/-- blocks of other types than bytes are as they were, but one -/
def KeepsBut (g : Nat) (w w' : World) : Prop := ∀ r cs t z, w.heap[r]? = some (.cells cs t z) → r ≠ g → t ≠ 5 → w'.heap[r]? = some (.cells cs t z)
theorem KeepsBut.trans {g : Nat} {w w1 w2 : World} (h : KeepsBut g w w1) (k : KeepsBut g w1 w2) : KeepsBut g w w2 := fun r cs t z h1 h2 h3 => k r cs t z (h r cs t z h1 h2 h3) h2 h3
theorem KeepsBut.of_below {g : Nat} {w w' : World} (h : Below w.heap.size w w') : KeepsBut g w w' := fun r cs t z h1 _ _ => by rw [h.block r (Array.getElem?_eq_some_iff.1 h1).1]; exact h1
theorem KeepsBut.set {g j : Nat} {w : World} (u : Value) : KeepsBut g w (w.setCell ⟨g, j, none⟩ u) := fun r cs t z h1 h2 _ => by rw [Below.heap_setCell _ _ _ _ h2]; exact h1
theorem KeepsBut.grown {g base : Nat} {w w' : World} {v : Value} {l : List UInt8} (ho : Own w base v l) (h : w.grownBy w' v.ownBlock) : KeepsBut g w w' := fun r cs t z h1 _ h3 => by
  rw [h.block r (Array.getElem?_eq_some_iff.1 h1).1 (fun e => ?_)]
  · exact h1
  · rcases ho.2 with ⟨rfl, _⟩ | ⟨k, cap, cur, rfl, _, hk, _⟩
    · cases e
    · simp only [Value.ownBlock, Option.some.injEq] at e
      subst e
      rw [h1] at hk
      simp only [Option.some.injEq, Obj.cells.injEq] at hk
      exact h3 hk.2.1
set_option maxRecDepth 100000 in
set_option maxHeartbeats 400000 in
theorem writerNum_ok (g n x : Nat) (N X : Int) (l : List UInt8) (w : World) (h : WrAt w g l) (hN : N = (n : Int)) (hX : X = (x : Int)) (hr : Fld.right (x : Int) = true) (hn : n < 256 ^ x) (hn6 : n < 4294967296) (hlen : l.length ≤ 100000000) :
    Calls Tryd.prog 50 #[.pointer (some ⟨g, 0, none⟩), .int .i64 N, .int .i64 X] w fun e w' => e = .returned (.tuple #[]) ∧ WrAt w' g (l ++ Fld.le x n) ∧ Below g w w' ∧ KeepsBut g w w' := by
  obtain ⟨a, c, hx, ho⟩ := h
  have hw : IntKind.u64.wrap N = (n : Int) := by rw [IntKind.wrap_u64]; omega
  have HX := Lib.hid hx
  have HO := Lib.hid ho
  have HR := Lib.hid hr
  have HN := Lib.hid hn
  have HN6 := Lib.hid hn6
  have HL := Lib.hid hlen
  have hlt := hx.lt
  have HLT := Lib.hid hlt
  have HXE := Lib.hid hX
  obtain ⟨m0, m1⟩ := hx.two
  have f0 := hx.free 0 _ rfl
  have f1 := hx.free 1 _ rfl
  clear hx ho hr hn hn6 hlen hN hlt hX
  go_enter Tryd.func50, Tryd.ntmps50
  go_wp2_with (go_at_call 72; (refine (put_is _ l n x _ X _ rfl HXE.out HO.out.bytes HR.out HN.out (by have := HN6.out; omega) (by have := HL.out; omega)).mono ?_); (rintro e w1 ⟨⟨a1, c1, rfl, ho1⟩, hb1⟩); (have HO1 := Lib.hid ho1); (have HX1 := Lib.hid (HX.out.below hb1)); (have HB1 := Lib.hid hb1); (have HK1 := Lib.hid (KeepsBut.of_below (g := g) hb1)); (have k0 := HX1.out.free 0 _ rfl); (have k1 := HX1.out.free 1 _ rfl); (obtain ⟨n0, n1⟩ := HX1.out.two); (clear ho1 hb1))
  refine bodyPost_end (results_none rfl _ _ _) rfl ?_
  have hbx := (HX1.out.put 0 (.slice a1 (l ++ Fld.le x n).length c1)).put 1 .nilIface
  have hg1 : g < w1.heap.size := HX1.out.lt
  refine ⟨rfl, ⟨a1, c1, ?_, ?_⟩, ?_, ?_⟩
  · first | exact hbx | simpa [List.set] using hbx
  · exact (((HO1.out.mono HLT.out).setLow _ (Nat.lt_succ_self _)).setLow _ (Nat.lt_succ_self _))
  · exact ((HB1.out.mono (Nat.le_of_lt HLT.out)).setCell (Nat.le_refl _) _).setCell (Nat.le_refl _) _
  · exact (HK1.out.trans (KeepsBut.set _)).trans (KeepsBut.set _)
end Go.Proofs.YtlobelfnjabajaaDoor

/- nodes: a writer's text -/
namespace Go.Proofs.YtlobelfnjabajaaDoor
open Go.RowKit
set_option linter.unusedVariables false
set_option linter.unusedSimpArgs false

set_option maxRecDepth 100000 in
set_option maxHeartbeats 400000 in
theorem writerText_of (g : Nat) (s : ByteArray) (l M : List UInt8) (hM : l ++ Fld.le 1 s.size = M) (w : World) (h : WrAt w g l) (hs : s.size < 256) (hlen : l.length ≤ 90000000) :
    Calls Tryd.prog 51 #[.pointer (some ⟨g, 0, none⟩), .string s] w fun e w' => e = .returned (.tuple #[]) ∧ WrAt w' g (M ++ s.data.toList) ∧ Below g w w' ∧ KeepsBut g w w' := by
  have H := Lib.hid h
  have HS := Lib.hid hs
  have HL := Lib.hid hlen
  have HM := Lib.hid hM
  have HML := Lib.hid (show M.length ≤ 90000001 by rw [← hM, List.length_append, Fld.le_length]; omega)
  clear h hs hlen hM
  go_enter Tryd.func51, Tryd.ntmps51
  go_upto_region 1 with (go_at_call 50; (refine (writerNum_ok g s.size 1 _ _ l _ H.out rfl rfl (by decide) (by have := HS.out; omega) (by have := HS.out; omega) (by have := HL.out; omega)).mono ?_); (rintro e w1 ⟨rfl, hw1, hb1, hk1⟩); (have HK1 := Lib.hid hk1); (clear hk1); (rw [HM.out] at hw1); (obtain ⟨a1, c1, hx1, ho1⟩ := hw1); (have HX1 := Lib.hid hx1); (have HO1 := Lib.hid ho1); (have HB1 := Lib.hid hb1); (obtain ⟨n0, n1⟩ := HX1.out.two); (have k0 := HX1.out.free 0 _ rfl); (clear hx1 ho1 hb1))
  go_wp2_with (at_builtin; (refine wpList_append_any rfl (.tmp 12) (.tmp 13) 9 rfl (g + 1) _ M rfl HO1.out _ s.data.toList rfl (str_src s w1) (by have := HML.out; have := HS.out; have e : s.data.toList.length = s.size := Array.length_toList; omega) HX1.out.lt ?_))
  intro v2 w2 hown hgrow _
  have hown2 : ∃ a2 c2, v2 = .slice a2 (M ++ s.data.toList).length c2 := by obtain ⟨a2, c2, e, _⟩ := hown.slice; exact ⟨a2, c2, e⟩
  obtain ⟨a2, c2, rfl⟩ := hown2
  have HX2 := Lib.hid (HX1.out.grownR hgrow (fun e => by have := (HO1.out.lt g e).1; omega))
  have HB2 := Lib.hid (HB1.out.grown hgrow (Nat.le_of_lt HX1.out.lt) (fun j hj => by have := (HO1.out.lt j hj).1; omega))
  have HK2 := Lib.hid (HK1.out.trans (KeepsBut.grown HO1.out hgrow))
  have HO2 := Lib.hid hown
  clear hown hgrow n0 n1 k0
  obtain ⟨n0, n1⟩ := HX2.out.two
  have k0 := HX2.out.free 0 _ rfl
  go_wp2_with fail
  go_end0
  have hbx := HX2.out.put 0 (.slice a2 (M ++ s.data.toList).length c2)
  refine ⟨rfl, ⟨a2, c2, ?_, ?_⟩, ?_, HK2.out.trans (KeepsBut.set _)⟩
  · first | exact hbx | simpa [List.set] using hbx
  · exact HO2.out.setLow _ (Nat.lt_succ_self _)
  · exact HB2.out.setCell (Nat.le_refl _) _
theorem writerText_ok (g : Nat) (s : ByteArray) (l : List UInt8) (w : World) (h : WrAt w g l) (hs : s.size < 256) (hlen : l.length ≤ 90000000) :
    Calls Tryd.prog 51 #[.pointer (some ⟨g, 0, none⟩), .string s] w fun e w' => e = .returned (.tuple #[]) ∧ WrAt w' g (l ++ Fld.le 1 s.size ++ s.data.toList) ∧ Below g w w' ∧ KeepsBut g w w' := writerText_of g s l _ rfl w h hs hlen
end Go.Proofs.YtlobelfnjabajaaDoor

/- nodes: Put of a node that is not right -/
namespace Go.Proofs.YtlobelfnjabajaaDoor
open Go.RowKit
set_option linter.unusedVariables false
set_option linter.unusedSimpArgs false

theorem nodeCheck_bad {S : Nat → Prop} [Has S 1] (lf : Bool) (es : List Nd.Ent) (ks : List ByteArray) (ki : List Int) (hn : nodeB lf es ks ki = false) (a1 a2 a3 : Option Addr) (c1 c2 c3 : Nat) (w : World) (A : Nat → Addr) (hs : SentsOn S w A) (h1 : RowAt eEnt w (.slice a1 es.length c1) es) (h2 : RowAt eStr w (.slice a2 ks.length c2) ks) (h3 : IntsAt w (.slice a3 ki.length c3) ki) (hl1 : es.length ≤ 1000000) (hl2 : ks.length ≤ 1000000) (hl3 : ki.length ≤ 1000000) :
    Calls Tryd.prog 39 #[.agg #[.bool lf, .slice a1 es.length c1, .slice a2 ks.length c2, .slice a3 ki.length c3]] w fun e w' => (∃ t x, e = .returned (.iface t x) ∧ ErrIs w' A w.heap.size [-1] 1 (.iface t x)) ∧ Below w.heap.size w w' := by
  refine (nodeCheck_any lf es ks ki a1 a2 a3 c1 c2 c3 w A hs h1 h2 h3 hl1 hl2 hl3).mono ?_
  rintro e w' ⟨⟨v, rfl, hv⟩, hb⟩
  have hE : nodeErr lf es ks ki = ([-1], 1) := by unfold nodeErr; rw [hn]; rfl
  rw [hE] at hv
  obtain ⟨t, x, rfl⟩ := hv.iface (by decide)
  exact ⟨⟨t, x, rfl, hv⟩, hb⟩
theorem nodeCheck_ok {S : Nat → Prop} [Has S 1] (lf : Bool) (es : List Nd.Ent) (ks : List ByteArray) (ki : List Int) (hn : nodeB lf es ks ki = true) (a1 a2 a3 : Option Addr) (c1 c2 c3 : Nat) (w : World) (A : Nat → Addr) (hs : SentsOn S w A) (h1 : RowAt eEnt w (.slice a1 es.length c1) es) (h2 : RowAt eStr w (.slice a2 ks.length c2) ks) (h3 : IntsAt w (.slice a3 ki.length c3) ki) (hl1 : es.length ≤ 1000000) (hl2 : ks.length ≤ 1000000) (hl3 : ki.length ≤ 1000000) :
    Calls Tryd.prog 39 #[.agg #[.bool lf, .slice a1 es.length c1, .slice a2 ks.length c2, .slice a3 ki.length c3]] w fun e w' => e = .returned .nilIface ∧ Below w.heap.size w w' := by
  refine (nodeCheck_any lf es ks ki a1 a2 a3 c1 c2 c3 w A hs h1 h2 h3 hl1 hl2 hl3).mono ?_
  rintro e w' ⟨⟨v, rfl, hv⟩, hb⟩
  have hE : nodeErr lf es ks ki = ([], 0) := by unfold nodeErr; rw [hn]; rfl
  rw [hE] at hv
  rcases hv with ⟨-, -, rfl⟩ | ⟨h, -⟩
  · exact ⟨rfl, hb⟩
  · exact absurd rfl h

set_option maxRecDepth 100000 in
set_option maxHeartbeats 1000000 in
theorem nodePut_bad {S : Nat → Prop} [Has S 1] (lf : Bool) (es : List Nd.Ent) (ks : List ByteArray) (ki : List Int) (hn : nodeB lf es ks ki = false) (a1 a2 a3 : Option Addr) (c1 c2 c3 : Nat) (w : World) (A : Nat → Addr) (hs : SentsOn S w A) (h1 : RowAt eEnt w (.slice a1 es.length c1) es) (h2 : RowAt eStr w (.slice a2 ks.length c2) ks) (h3 : IntsAt w (.slice a3 ki.length c3) ki) (hl1 : es.length ≤ 1000000) (hl2 : ks.length ≤ 1000000) (hl3 : ki.length ≤ 1000000) :
    Calls Tryd.prog 16 #[.agg #[.bool lf, .slice a1 es.length c1, .slice a2 ks.length c2, .slice a3 ki.length c3]] w fun e w' => (∃ t x, e = .returned (.tuple #[.slice none 0 0, .iface t x]) ∧ ErrIs w' A w.heap.size [-1, -1] 1 (.iface t x)) ∧ Below w.heap.size w w' := by
  have H1 := Lib.hid h1
  have H2 := Lib.hid h2
  have H3 := Lib.hid h3
  have HS := Lib.hid hs
  have HN := Lib.hid hn
  have HL1 := Lib.hid hl1
  have HL2 := Lib.hid hl2
  have HL3 := Lib.hid hl3
  clear h1 h2 h3 hs hn hl1 hl2 hl3
  go_enter Tryd.func16, Tryd.ntmps16
  go_upto_region 1 with fail
  refine wp_name fun W hW => ?_
  have HX := Lib.hid (show BoxAt W w.heap.size [.bool lf, .slice a1 es.length c1, .slice a2 ks.length c2, .slice a3 ki.length c3] by rw [hW]; exact BoxAt.new w [_, _, _, _] _)
  have HB := Lib.hid (show Below w.heap.size w W by rw [hW]; go_grown)
  clear hW
  obtain ⟨m0, m1, m2, m3⟩ := HX.out.four
  go_wp2_with (first
    | (go_at_call 39; (refine (nodeCheck_bad lf es ks ki HN.out a1 a2 a3 c1 c2 c3 _ A (HS.out.below HB.out) (H1.out.below HB.out) (H2.out.below HB.out) (H3.out.below HB.out) HL1.out HL2.out HL3.out).mono ?_); (rintro e w1 ⟨⟨t, x, rfl, hE⟩, hb1⟩); (have HB1 := Lib.hid (below_step HB.out hb1)); (have HE := Lib.hid (hE.mono (B' := w.heap.size) HB.out.size)); (clear hE hb1))
    | (go_at_call 49; (refine (faultWrap_any _ [-1] 1 _ _ A _ HE.out (by decide) HB1.out.size).mono ?_); (rintro e w2 ⟨⟨v, rfl, hv⟩, hb2⟩); (obtain ⟨t2, x2, rfl⟩ := hv.iface (by decide)); (have HB2 := Lib.hid (below_step HB1.out hb2)); (have HV := Lib.hid hv); (clear hv hb2)))
  go_ret2
  exact ⟨⟨_, _, rfl, HV.out⟩, HB2.out⟩
end Go.Proofs.YtlobelfnjabajaaDoor
