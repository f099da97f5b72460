/- nodes: Weight of an inner node; NodePuts, NodeGets, NodeBack -/
import Derived.Test.YtlobelfnjabajaaDoorNodeA1
import Derived.Test.YtlobelfnjabajaaDoorNodeD4
import Derived.Test.YtlobelfnjabajaaDoorTells07
namespace Go.Proofs.YtlobelfnjabajaaDoor
open Go.RowKit
set_option linter.unusedVariables false
set_option linter.unusedSimpArgs false

set_option maxRecDepth 100000 in
set_option maxHeartbeats 2000000 in
theorem nodeWeight_inner (ks : List ByteArray) (v3 : Value) (a1 a2 : Option Addr) (c1 c2 : Nat) (w : World) (h2 : RowAt eStr w (.slice a2 ks.length c2) ks) (hl1 : ks.length ≤ 1000000) (hle : ∀ (k : Nat) (e : ByteArray), ks[k]? = some e → e.size ≤ 32) :
    Calls Tryd.prog 26 #[.agg #[.bool false, .slice a1 0 c1, .slice a2 ks.length c2, v3]] w fun e w' => e = .returned (.int .i64 ((6 + keysW ks ks.length : Nat) : Int)) ∧ Below w.heap.size w w' := by
  have H2 := Lib.hid h2
  have HLE := Lib.hid hle
  clear h2 hle
  go_enter Tryd.func26, Tryd.ntmps26
  go_upto_region 1 with fail
  refine wp_name fun W hW => ?_
  have HX := Lib.hid (show BoxAt W w.heap.size [.bool false, .slice a1 0 c1, .slice a2 ks.length c2, v3] by rw [hW]; exact BoxAt.new w [_, _, _, _] _)
  have HB := Lib.hid (show Below w.heap.size w W by rw [hW]; go_grown)
  clear hW
  obtain ⟨m0, m1, m2, m3⟩ := HX.out.four
  go_wp2_with fail
  go_loopw [3, 16] (fun v i wr => i = .int .i64 0 ∧ v = .int .i64 6 ∧ BoxAt wr w.heap.size [.bool false, .slice a1 0 c1, .slice a2 ks.length c2, v3] ∧ Below w.heap.size w wr) (fun _ _ _ => 0)
  case atStart => exact ⟨rfl, rfl, HX.out, HB.out⟩
  case round =>
    obtain ⟨rfl, rfl, hbx0, hbr0⟩ := hrel
    have HX0 := Lib.hid hbx0
    have HB0 := Lib.hid hbr0
    clear m0 m1 m2 m3
    obtain ⟨m0, m1, m2, m3⟩ := hbx0.four
    clear hbx0 hbr0
    go_wp2_with fail
    go_loopw [3, 41] (fun v i wr' => ∃ k : Nat, k ≤ ks.length ∧ i = .int .i64 k ∧ v = .int .i64 ((6 + keysW ks k : Nat) : Int) ∧ Below w.heap.size w wr') (fun _ i _ => ks.length - (intOf i).toNat)
    case atStart => exact ⟨0, by omega, rfl, rfl, HB0.out⟩
    case round =>
      obtain ⟨k, hk, rfl, rfl, hbr⟩ := hrel
      have HBR := Lib.hid hbr
      by_cases hlt : k < ks.length
      · obtain ⟨e, he⟩ := getElem?_some_of_lt hlt
        obtain ⟨b1, o1, rfl, e0⟩ := str_cell (H2.out.below HBR.out) he
        have z1 := HLE.out k e he
        have hlt1 : (k : Int) < (ks.length : Int) := by omega
        have HW := Lib.hid (show keysW ks (k + 1) = keysW ks k + (5 + e.size) by rw [keysW, he])
        have hq := keysW_le HLE.out k
        generalize hQ : keysW ks k = q at *
        clear he
        go_wp2_with fail
        go_roundw
        case rel => exact ⟨k + 1, by omega, by go_num, by rw [HW.out]; go_num, HBR.out⟩
        case measure => simp [intOf]; omega
      · have hkk : k = ks.length := by omega
        subst hkk
        go_wp2_with fail
        go_ret
        exact ⟨rfl, HBR.out⟩
theorem nodeB_leaf {es : List Nd.Ent} {ks : List ByteArray} {ki : List Int} (hn : nodeB true es ks ki = true) : entsK es es.length = true ∧ ks = [] ∧ ki = [] ∧ es.length ≤ 65535 := by
  unfold nodeB leafB at hn
  simp at hn
  obtain ⟨⟨h1, h2, h3, -⟩, h4⟩ := hn
  exact ⟨h1, h2, h3, h4⟩
theorem nodeB_inner {es : List Nd.Ent} {ks : List ByteArray} {ki : List Int} (hn : nodeB false es ks ki = true) : es = [] ∧ keysK ks ks.length = true := by
  unfold nodeB innerB at hn
  simp at hn
  obtain ⟨⟨⟨h0, -, -, -⟩, -, h1, -⟩, -⟩ := hn
  exact ⟨h0, h1⟩
theorem nodeWeight_is (lf : Bool) (es : List Nd.Ent) (ks : List ByteArray) (ki : List Int) (hn : nodeB lf es ks ki = true) (L : List UInt8) (hL : nodeL lf es ks ki = L) (a1 a2 a3 : Option Addr) (c1 c2 c3 : Nat) (w : World) (h1 : RowAt eEnt w (.slice a1 es.length c1) es) (h2 : RowAt eStr w (.slice a2 ks.length c2) ks) (hl1 : es.length ≤ 1000000) (hl2 : ks.length ≤ 1000000) :
    Calls Tryd.prog 26 #[.agg #[.bool lf, .slice a1 es.length c1, .slice a2 ks.length c2, .slice a3 ki.length c3]] w fun e w' => e = .returned (.int .i64 (L.length : Int)) ∧ Below w.heap.size w w' := by
  subst hL
  cases lf with
  | true =>
    obtain ⟨hk, rfl, rfl, -⟩ := nodeB_leaf hn
    rw [nodeL_leaf]
    exact nodeWeight_leaf es (.slice a3 0 c3) a1 a2 c1 c2 w h1 hl1 (ents_few hk)
  | false =>
    obtain ⟨rfl, hk⟩ := nodeB_inner hn
    rw [nodeL_inner]
    exact nodeWeight_inner ks (.slice a3 ki.length c3) a1 a2 c1 c2 w h2 hl2 (fun k e he => (keyB_bd (keysK_at hk (List.getElem?_eq_some_iff.1 he).1 he)).2)
theorem nodePut_ok {S : Nat → Prop} [Has S 1] (lf : Bool) (es : List Nd.Ent) (ks : List ByteArray) (ki : List Int) (hn : nodeB lf es ks ki = true) (L : List UInt8) (hL : nodeL lf es ks ki = L) (a1 a2 a3 : Option Addr) (c1 c2 c3 : Nat) (w : World) (A : Nat → Addr) (hs : SentsOn S w A) (h1 : RowAt eEnt w (.slice a1 es.length c1) es) (h2 : RowAt eStr w (.slice a2 ks.length c2) ks) (h3 : IntsAt w (.slice a3 ki.length c3) ki) (hl1 : es.length ≤ 1000000) (hl2 : ks.length ≤ 1000000) (hl3 : ki.length ≤ 1000000) :
    Calls Tryd.prog 16 #[.agg #[.bool lf, .slice a1 es.length c1, .slice a2 ks.length c2, .slice a3 ki.length c3]] w fun e w' => (∃ a c, e = .returned (.tuple #[.slice a L.length c, .nilIface]) ∧ BytesAt w' (.slice a L.length c) L) ∧ Below w.heap.size w w' := by
  subst hL
  cases lf with
  | true => exact (nodePut_leaf es ks ki hn a1 a2 a3 c1 c2 c3 w A hs h1 h2 h3 hl1 hl2 hl3).mono fun e w' ⟨⟨a, c, he, ho⟩, hb⟩ => ⟨⟨a, c, he, ho.bytes⟩, hb⟩
  | false => exact (nodePut_inner es ks ki hn a1 a2 a3 c1 c2 c3 w A hs h1 h2 h3 hl1 hl2 hl3).mono fun e w' ⟨⟨a, c, he, ho⟩, hb⟩ => ⟨⟨a, c, he, ho.bytes⟩, hb⟩
def getOk (lf : Bool) (l : List UInt8) : Bool := if lf = true then leafOk l else innerOk l
def getE (lf : Bool) (l : List UInt8) : List Nd.Ent := if lf = true then (leafG l).1 else []
def getK (lf : Bool) (l : List UInt8) : List ByteArray := if lf = true then [] else (innerG l).1.1
def getI (lf : Bool) (l : List UInt8) : List Int := if lf = true then [] else (innerG l).1.2
/-- what is got is right, and its bytes are those -/
theorem getOk_right {lf : Bool} {l : List UInt8} (h : getOk lf l = true) : nodeB lf (getE lf l) (getK lf l) (getI lf l) = true ∧ nodeL lf (getE lf l) (getK lf l) (getI lf l) = l := by
  cases lf with
  | true =>
    have h' : leafOk l = true := h
    unfold leafOk at h'
    simp only [Bool.and_eq_true, beq_iff_eq] at h'
    exact h'.2
  | false =>
    have h' : innerOk l = true := h
    unfold innerOk at h'
    simp only [Bool.and_eq_true, beq_iff_eq] at h'
    exact h'.2
/-- a right node's bytes are got as it -/
theorem getOk_of {lf : Bool} {es : List Nd.Ent} {ks : List ByteArray} {ki : List Int} (hn : nodeB lf es ks ki = true) {L : List UInt8} (hL : nodeL lf es ks ki = L) : getOk lf L = true ∧ getE lf L = es ∧ getK lf L = ks ∧ getI lf L = ki := by
  subst hL
  cases lf with
  | true =>
    obtain ⟨rfl, rfl, h1, h2⟩ := leafG_of hn
    refine ⟨?_, h1, rfl, rfl⟩
    show leafOk _ = true
    unfold leafOk
    rw [h1, h2, hn]; simp
  | false =>
    obtain ⟨rfl, h1, h2⟩ := innerG_of hn
    refine ⟨?_, rfl, ?_, ?_⟩
    · show innerOk _ = true
      unfold innerOk
      rw [h1, h2, hn]; simp
    · show (innerG _).1.1 = ks
      rw [h1]
    · show (innerG _).1.2 = ki
      rw [h1]
theorem nodeGet_is (lf : Bool) (l : List UInt8) (fin : Bool) (hfin : getOk lf l = fin) (a : Option Addr) (c : Nat) (w : World) (A : Nat → Addr) {S : Nat → Prop} [Has S 1] [Has S 2] (hs : SentsOn S w A) (hb : BytesAt w (.slice a l.length c) l) (hl : l.length ≤ 1000000) :
    Calls Tryd.prog 17 #[.bool lf, .slice a l.length c] w fun e w' => (if fin = true then GivesNode w A lf (getE lf l) (getK lf l) (getI lf l) 0 e w' else GivesNode w A false [] [] [] 1 e w') ∧ Below w.heap.size w w' := by
  cases lf with
  | true => exact nodeGet_leafAt l fin hfin a c w A hs hb hl
  | false => exact nodeGet_innerAt l fin hfin a c w A hs hb hl
theorem nodeGet_ok (lf : Bool) (l : List UInt8) (hfin : getOk lf l = true) (es : List Nd.Ent) (ks : List ByteArray) (ki : List Int) (he : getE lf l = es) (hk : getK lf l = ks) (hi : getI lf l = ki) (a : Option Addr) (c : Nat) (w : World) (A : Nat → Addr) {S : Nat → Prop} [Has S 1] [Has S 2] (hs : SentsOn S w A) (hb : BytesAt w (.slice a l.length c) l) (hl : l.length ≤ 1000000) :
    Calls Tryd.prog 17 #[.bool lf, .slice a l.length c] w fun e w' => (∃ a1 a2 a3 c1 c2 c3, e = .returned (.tuple #[.agg #[.bool lf, .slice a1 es.length c1, .slice a2 ks.length c2, .slice a3 ki.length c3], .nilIface]) ∧ OwnR eEnt w' w.heap.size (.slice a1 es.length c1) es ∧ OwnR eStr w' w.heap.size (.slice a2 ks.length c2) ks ∧ OwnI w' w.heap.size (.slice a3 ki.length c3) ki) ∧ Below w.heap.size w w' := by
  subst he hk hi
  refine (nodeGet_is lf l true hfin a c w A hs hb hl).mono ?_
  rintro e w' ⟨h, hb'⟩
  rw [if_pos rfl] at h
  obtain ⟨a1, a2, a3, c1, c2, c3, ev, lp, he, h1, h2, h3, hE⟩ := h
  obtain ⟨rfl, _⟩ := hE.isNil
  exact ⟨⟨a1, a2, a3, c1, c2, c3, he, h1, h2, h3⟩, hb'⟩
theorem own_cap {α : Type} {E : Elem α} {w : World} {base : Nat} {a : Option Addr} {n c : Nat} {l : List α} (h : OwnR E w base (.slice a n c) l) : c ≤ maxLen := by
  obtain ⟨a', c', e, _, hm⟩ := h.slice
  obtain rfl : c = c' := by injection e
  exact hm
theorem own_capI {w : World} {base : Nat} {a : Option Addr} {n c : Nat} {l : List Int} (h : OwnI w base (.slice a n c) l) : c ≤ maxLen := by
  obtain ⟨a', c', e, _, hm⟩ := h.slice
  obtain rfl : c = c' := by injection e
  exact hm
theorem nodeGet_bad (lf : Bool) (l : List UInt8) (hfin : getOk lf l = false) (a : Option Addr) (c : Nat) (w : World) (A : Nat → Addr) {S : Nat → Prop} [Has S 1] [Has S 2] (hs : SentsOn S w A) (hb : BytesAt w (.slice a l.length c) l) (hl : l.length ≤ 1000000) :
    Calls Tryd.prog 17 #[.bool lf, .slice a l.length c] w fun e w' => (∃ a1 a2 a3 c1 c2 c3 t x lp, e = .returned (.tuple #[.agg #[.bool false, .slice a1 0 c1, .slice a2 0 c2, .slice a3 0 c3], .iface t x]) ∧ ErrIs w' A w.heap.size lp 1 (.iface t x) ∧ c1 ≤ maxLen ∧ c2 ≤ maxLen ∧ c3 ≤ maxLen) ∧ Below w.heap.size w w' := by
  refine (nodeGet_is lf l false hfin a c w A hs hb hl).mono ?_
  rintro e w' ⟨h, hb'⟩
  rw [if_neg (by decide)] at h
  obtain ⟨a1, a2, a3, c1, c2, c3, ev, lp, he, h1, h2, h3, hE⟩ := h
  obtain ⟨t, x, rfl⟩ := hE.iface (by decide)
  exact ⟨⟨a1, a2, a3, c1, c2, c3, t, x, lp, he, hE, own_cap h1, own_cap h2, own_capI h3⟩, hb'⟩
theorem refGet_is (lf : Bool) (l : List UInt8) (fin : Bool) (hfin : getOk lf l = fin) (a : Option Addr) (c : Nat) (w : World) (hb : BytesAt w (.slice a l.length c) l) (hl : l.length ≤ 1000000) :
    Calls Tryd.prog 37 #[.bool lf, .slice a l.length c] w fun e w' => (if fin = true then GivesRef7 w lf (getE lf l) (getK lf l) (getI lf l) true e w' else GivesRef7 w false [] [] [] false e w') ∧ Below w.heap.size w w' := by
  cases lf with
  | true => exact refGet_leafAt l fin hfin a c w hb hl
  | false => exact refGet_innerAt l fin hfin a c w hb hl
theorem refGet_ok (lf : Bool) (l : List UInt8) (hfin : getOk lf l = true) (es : List Nd.Ent) (ks : List ByteArray) (ki : List Int) (he : getE lf l = es) (hk : getK lf l = ks) (hi : getI lf l = ki) (a : Option Addr) (c : Nat) (w : World) (hb : BytesAt w (.slice a l.length c) l) (hl : l.length ≤ 1000000) :
    Calls Tryd.prog 37 #[.bool lf, .slice a l.length c] w fun e w' => (∃ a1 a2 a3 c1 c2 c3, e = .returned (.tuple #[.agg #[.bool lf, .slice a1 es.length c1, .slice a2 ks.length c2, .slice a3 ki.length c3], .bool true]) ∧ RowAt eEnt w' (.slice a1 es.length c1) es ∧ RowAt eStr w' (.slice a2 ks.length c2) ks ∧ IntsAt w' (.slice a3 ki.length c3) ki) ∧ Below w.heap.size w w' := by
  subst he hk hi
  refine (refGet_is lf l true hfin a c w hb hl).mono ?_
  rintro e w' ⟨h, hb'⟩
  rw [if_pos rfl] at h
  obtain ⟨a1, a2, a3, c1, c2, c3, he, h1, h2, h3⟩ := h
  exact ⟨⟨a1, a2, a3, c1, c2, c3, he, h1.at eEnt_ok, h2.at eStr_ok, h3.ints⟩, hb'⟩
theorem refGet_bad (lf : Bool) (l : List UInt8) (hfin : getOk lf l = false) (a : Option Addr) (c : Nat) (w : World) (hb : BytesAt w (.slice a l.length c) l) (hl : l.length ≤ 1000000) :
    Calls Tryd.prog 37 #[.bool lf, .slice a l.length c] w fun e w' => (∃ a1 a2 a3 c1 c2 c3, e = .returned (.tuple #[.agg #[.bool false, .slice a1 0 c1, .slice a2 0 c2, .slice a3 0 c3], .bool false])) ∧ Below w.heap.size w w' := by
  refine (refGet_is lf l false hfin a c w hb hl).mono ?_
  rintro e w' ⟨h, hb'⟩
  rw [if_neg (by decide)] at h
  obtain ⟨a1, a2, a3, c1, c2, c3, he, _⟩ := h
  exact ⟨⟨a1, a2, a3, c1, c2, c3, he⟩, hb'⟩
theorem rowE_nil (E : World) (a : Option Addr) (c : Nat) (hc : c ≤ maxLen) : RowAt eEnt E (.slice a 0 c) [] := ⟨a, c, rfl, Nat.zero_le _, hc, .inl rfl⟩
set_option maxRecDepth 100000 in
set_option maxHeartbeats 1000000 in
theorem nodePuts_walk (lf : Bool) (es : List Nd.Ent) (ks : List ByteArray) (ki : List Int) (a1 a2 a3 : Option Addr) (c1 c2 c3 : Nat) (w : World) (A : Nat → Addr) (hs : Sents w A) (h1 : RowAt eEnt w (.slice a1 es.length c1) es) (h2 : RowAt eStr w (.slice a2 ks.length c2) ks) (h3 : IntsAt w (.slice a3 ki.length c3) ki) :
    Calls Tryd.prog 9 #[.agg #[.bool lf, .slice a1 es.length c1, .slice a2 ks.length c2, .slice a3 ki.length c3]] w fun e w' => e = .returned (.bool true) ∧ Below w.heap.size w w' := by
  have HS := Lib.hid hs
  have H1 := Lib.hid h1
  have H2 := Lib.hid h2
  have H3 := Lib.hid h3
  clear hs h1 h2 h3
  go_enter Tryd.func9, Tryd.ntmps9
  go_upto_region 1 with fail
  refine wp_name fun W hW => ?_
  have HX0 := Lib.hid (show BoxAt W w.heap.size [.bool lf, .slice a1 es.length c1, .slice a2 ks.length c2, .slice a3 ki.length c3] by rw [hW]; exact (BoxAt.new w [_, _, _, _] _))
  have HB0 := Lib.hid (show Below w.heap.size w W by rw [hW]; go_grown)
  clear hW
  obtain ⟨m0, m1, m2, m3⟩ := HX0.out.four
  cases hl : lightB es.length ks.length ki.length with
  | false =>
    have HL := Lib.hid hl
    clear hl
    go_wp2_with (first
      | (go_at_call 14; (refine (light7_is lf _ _ _ false HL.out _ _ _ _ _ _ _).mono ?_); (rintro e w1 ⟨rfl, hb1⟩); (have HB1 := Lib.hid (below_step HB0.out hb1)); (have HX1 := Lib.hid (HX0.out.below hb1)); (clear hb1 m0 m1 m2 m3); (obtain ⟨m0, m1, m2, m3⟩ := HX1.out.four))
      | (go_at_call 15; (refine (awake7_any _ A (HS.out.below HB1.out)).mono ?_); (rintro e w3 ⟨rfl, hb3⟩); (have HB3 := Lib.hid (below_step HB1.out hb3)); (clear hb3)))
    go_ret
    exact ⟨rfl, HB3.out⟩
  | true =>
    have HL := Lib.hid hl
    obtain ⟨q1, q3, q2⟩ := light_yes hl
    clear hl
    have z1 : es.length ≤ 1000000 := by omega
    have z2 : ks.length ≤ 1000000 := by omega
    have z3 : ki.length ≤ 1000000 := by omega
    cases hn : nodeB lf es ks ki with
    | false =>
      have HN := Lib.hid hn
      clear hn
      go_upto_region 4 with (first
        | (go_at_call 14; (refine (light7_is lf _ _ _ true HL.out _ _ _ _ _ _ _).mono ?_); (rintro e w1 ⟨rfl, hb1⟩); (have HB1 := Lib.hid (below_step HB0.out hb1)); (have HX1 := Lib.hid (HX0.out.below hb1)); (clear hb1 m0 m1 m2 m3); (obtain ⟨m0, m1, m2, m3⟩ := HX1.out.four))
        | (go_at_call 16; (refine (nodePut_bad lf es ks ki HN.out _ _ _ _ _ _ _ A (HS.out.below HB1.out) (H1.out.below HB1.out) (H2.out.below HB1.out) (H3.out.below HB1.out) z1 z2 z3).mono ?_); (rintro e w2 ⟨⟨t2, x2, rfl, hE2⟩, hb2⟩); (have HE2 := Lib.hid hE2); (have HB2 := Lib.hid (below_step HB1.out hb2)); (have HX2 := Lib.hid (HX1.out.below hb2)); (clear hb2 m0 m1 m2 m3); (obtain ⟨m0, m1, m2, m3⟩ := HX2.out.four)))
      go_wp2_with (first
        | (go_at_call 24; (refine (refRight_is lf es ks ki false HN.out _ _ _ _ _ _ _ (H1.out.below HB2.out) (H2.out.below HB2.out) (H3.out.below HB2.out) z1 z2 z3).mono ?_); (rintro e w3 ⟨rfl, hb3⟩); (have HE3 := Lib.hid (HE2.out.below hb3)); (have HB3 := Lib.hid (below_step HB2.out hb3)); (have HX3 := Lib.hid (HX2.out.below hb3)); (clear hb3 m0 m1 m2 m3); (obtain ⟨m0, m1, m2, m3⟩ := HX3.out.four))
        | (go_at_call 38; (refine (tells07_any (HS.out.below HB5.out) _ 1 _ HE5.out _ rfl).mono ?_); (rintro e w6 ⟨rfl, rfl⟩))
        | (go_at_call 39; (refine (nodeCheck_bad lf es ks ki HN.out _ _ _ _ _ _ _ A (HS.out.below HB3.out) (H1.out.below HB3.out) (H2.out.below HB3.out) (H3.out.below HB3.out) z1 z2 z3).mono ?_); (rintro e w5 ⟨⟨t5, x5, rfl, hE5⟩, hb5⟩); (have HE5 := Lib.hid hE5); (have HB5 := Lib.hid (below_step HB3.out hb5)); (have HX5 := Lib.hid (HX3.out.below hb5)); (clear hb5 m0 m1 m2 m3); (obtain ⟨m0, m1, m2, m3⟩ := HX5.out.four))
        | (go_at_call 38; (refine (tells07_any (HS.out.below HB3.out) _ 1 _ HE3.out _ rfl).mono ?_); (rintro e w4 ⟨rfl, rfl⟩))
        | (go_at_call 15; (refine (awake7_any _ A (HS.out.below HB5.out)).mono ?_); (rintro e w7 ⟨rfl, hb7⟩); (have HB7 := Lib.hid (below_step HB5.out hb7)); (clear hb7)))
      go_ret
      exact ⟨rfl, HB7.out⟩
    | true =>
      have HN := Lib.hid hn
      obtain ⟨L, hL⟩ : ∃ L, nodeL lf es ks ki = L := ⟨_, rfl⟩
      have HLL := Lib.hid hL
      have hLL : (L == L) = true := by simp
      clear hn hL
      go_upto_region 4 with (first
        | (go_at_call 14; (refine (light7_is lf _ _ _ true HL.out _ _ _ _ _ _ _).mono ?_); (rintro e w1 ⟨rfl, hb1⟩); (have HB1 := Lib.hid (below_step HB0.out hb1)); (have HX1 := Lib.hid (HX0.out.below hb1)); (clear hb1 m0 m1 m2 m3); (obtain ⟨m0, m1, m2, m3⟩ := HX1.out.four))
        | (go_at_call 16; (refine (nodePut_ok lf es ks ki HN.out L HLL.out _ _ _ _ _ _ _ A (HS.out.below HB1.out) (H1.out.below HB1.out) (H2.out.below HB1.out) (H3.out.below HB1.out) z1 z2 z3).mono ?_); (rintro e w2 ⟨⟨a9, c9, rfl, hY2⟩, hb2⟩); (have HY2 := Lib.hid hY2); (have HB2 := Lib.hid (below_step HB1.out hb2)); (have HX2 := Lib.hid (HX1.out.below hb2)); (clear hb2 m0 m1 m2 m3); (obtain ⟨m0, m1, m2, m3⟩ := HX2.out.four)))
      go_wp2_with (first
        | (go_at_call 24; (refine (refRight_is lf es ks ki true HN.out _ _ _ _ _ _ _ (H1.out.below HB2.out) (H2.out.below HB2.out) (H3.out.below HB2.out) z1 z2 z3).mono ?_); (rintro e w3 ⟨rfl, hb3⟩); (have HY3 := Lib.hid (HY2.out.below hb3)); (have HB3 := Lib.hid (below_step HB2.out hb3)); (have HX3 := Lib.hid (HX2.out.below hb3)); (clear hb3 m0 m1 m2 m3); (obtain ⟨m0, m1, m2, m3⟩ := HX3.out.four))
        | (go_at_call 39; (refine (nodeCheck_ok lf es ks ki HN.out _ _ _ _ _ _ _ A (HS.out.below HB3.out) (H1.out.below HB3.out) (H2.out.below HB3.out) (H3.out.below HB3.out) z1 z2 z3).mono ?_); (rintro e w5 ⟨rfl, hb5⟩); (have HY5 := Lib.hid (HY3.out.below hb5)); (have HB5 := Lib.hid (below_step HB3.out hb5)); (have HX5 := Lib.hid (HX3.out.below hb5)); (clear hb5 m0 m1 m2 m3); (obtain ⟨m0, m1, m2, m3⟩ := HX5.out.four))
        | (go_at_call 27; (refine (refBytes_is lf es ks ki HN.out L HLL.out _ _ _ _ _ _ _ (H1.out.below HB5.out) (H2.out.below HB5.out) (H3.out.below HB5.out)).mono ?_); (rintro e w6 ⟨⟨a8, c8, rfl, ho8⟩, hb6⟩); (have HY6 := Lib.hid (HY5.out.below hb6)); (have HZ6 := Lib.hid ho8.bytes); (clear ho8); (have HB6 := Lib.hid (below_step HB5.out hb6)); (have HX6 := Lib.hid (HX5.out.below hb6)); (clear hb6 m0 m1 m2 m3); (obtain ⟨m0, m1, m2, m3⟩ := HX6.out.four))
        | (go_at_call 19; (refine (sameB7_is _ _ L L true hLL _ HY6.out HZ6.out).mono ?_); (rintro e w7 ⟨rfl, hb7⟩); (have HB7 := Lib.hid (below_step HB6.out hb7)); (have HX7 := Lib.hid (HX6.out.below hb7)); (clear hb7 m0 m1 m2 m3); (obtain ⟨m0, m1, m2, m3⟩ := HX7.out.four))
        | (go_at_call 26; (refine (nodeWeight_is lf es ks ki HN.out L HLL.out _ _ _ _ _ _ _ (H1.out.below HB7.out) (H2.out.below HB7.out) z1 z2).mono ?_); (rintro e w8 ⟨rfl, hb8⟩); (have HB8 := Lib.hid (below_step HB7.out hb8)); (have HX8 := Lib.hid (HX7.out.below hb8)); (clear hb8 m0 m1 m2 m3); (obtain ⟨m0, m1, m2, m3⟩ := HX8.out.four))
        | (go_at_call 15; (refine (awake7_any _ A (HS.out.below HB8.out)).mono ?_); (rintro e w9 ⟨rfl, hb9⟩); (have HB9 := Lib.hid (below_step HB8.out hb9)); (clear hb9)))
      go_ret
      exact ⟨rfl, HB9.out⟩
end Go.Proofs.YtlobelfnjabajaaDoor
