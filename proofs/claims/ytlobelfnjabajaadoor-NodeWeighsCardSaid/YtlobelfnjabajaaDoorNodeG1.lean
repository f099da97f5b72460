/- nodes: Get, of a leaf's bytes -/
import Derived.Test.YtlobelfnjabajaaDoorNodeM5
import Derived.Test.YtlobelfnjabajaaDoorPageOpen2
import Derived.Test.YtlobelfnjabajaaDoorMix
namespace Go.Proofs.YtlobelfnjabajaaDoor
open Go.RowKit
set_option linter.unusedVariables false
set_option linter.unusedSimpArgs false

/-- a node in new memory, and an error -/
def GivesNode (w : World) (A : Nat → Addr) (lf : Bool) (es : List Nd.Ent) (ks : List ByteArray) (ki : List Int) (k : Nat) (e : Ending) (w' : World) : Prop :=
  ∃ a1 a2 a3 c1 c2 c3 ev lp, e = .returned (.tuple #[.agg #[.bool lf, .slice a1 es.length c1, .slice a2 ks.length c2, .slice a3 ki.length c3], ev]) ∧ OwnR eEnt w' w.heap.size (.slice a1 es.length c1) es ∧ OwnR eStr w' w.heap.size (.slice a2 ks.length c2) ks ∧ OwnI w' w.heap.size (.slice a3 ki.length c3) ki ∧ ErrIs w' A w.heap.size lp k ev
theorem leafR_at {l : List UInt8} {s0 s : Rd} {es : List Nd.Ent} {k : Nat} (h : leafR l s0 k = (es, s)) (hb : s.bad = false) {E : Nd.Ent} {s' : Rd} (ho : oneR l s = (E, s')) : leafR l s0 (k + 1) = (es ++ [E], s') := by
  rw [leafR, h]; simp [hb, ho]
theorem leafR_bad {l : List UInt8} {s0 s : Rd} {es : List Nd.Ent} {k n : Nat} (h : leafR l s0 k = (es, s)) (hb : s.bad = true) (hk : k ≤ n) : leafR l s0 n = (es, s) := by
  rw [← h]; exact leafR_stays (by rw [h]; exact hb) n hk
theorem nodePutL_any {S : Nat → Prop} [Has S 1] (es : List Nd.Ent) (a1 : Option Addr) (c1 : Nat) (w : World) (A : Nat → Addr) (hs : SentsOn S w A) (h1 : RowAt eEnt w (.slice a1 es.length c1) es) (hl1 : es.length ≤ 1000000) :
    Calls Tryd.prog 16 #[.agg #[.bool true, .slice a1 es.length c1, .slice none 0 0, .slice none 0 0]] w fun e w' => (∃ v ev, e = .returned (.tuple #[v, ev])) ∧ Below w.heap.size w w' :=
  (nodePut_any true es [] [] a1 none none c1 0 0 w A hs h1 (RowAt.nil _ _) (IntsAt.nil _) hl1 (by simp) (by simp)).mono fun e w' ⟨⟨a, c, ev, lp, he, _⟩, hb⟩ => ⟨⟨_, _, he⟩, hb⟩
theorem nodePutL_bad {S : Nat → Prop} [Has S 1] (es : List Nd.Ent) (hn : nodeB true es [] [] = false) (a1 : Option Addr) (c1 : Nat) (w : World) (A : Nat → Addr) (hs : SentsOn S w A) (h1 : RowAt eEnt w (.slice a1 es.length c1) es) (hl1 : es.length ≤ 1000000) :
    Calls Tryd.prog 16 #[.agg #[.bool true, .slice a1 es.length c1, .slice none 0 0, .slice none 0 0]] w fun e w' => (∃ t x, e = .returned (.tuple #[.slice none 0 0, .iface t x])) ∧ Below w.heap.size w w' :=
  (nodePut_bad true es [] [] hn a1 none none c1 0 0 w A hs h1 (RowAt.nil _ _) (IntsAt.nil _) hl1 (by simp) (by simp)).mono fun e w' ⟨⟨t, x, he, _⟩, hb⟩ => ⟨⟨t, x, he⟩, hb⟩
theorem nodePutL_ok {S : Nat → Prop} [Has S 1] (es : List Nd.Ent) (hn : nodeB true es [] [] = true) (L : List UInt8) (hL : nodeL true es [] [] = L) (a1 : Option Addr) (c1 : Nat) (w : World) (A : Nat → Addr) (hs : SentsOn S w A) (h1 : RowAt eEnt w (.slice a1 es.length c1) es) (hl1 : es.length ≤ 1000000) :
    Calls Tryd.prog 16 #[.agg #[.bool true, .slice a1 es.length c1, .slice none 0 0, .slice none 0 0]] w fun e w' => (∃ a c, e = .returned (.tuple #[.slice a L.length c, .nilIface]) ∧ BytesAt w' (.slice a L.length c) L) ∧ Below w.heap.size w w' := by
  subst hL
  exact (nodePut_leaf es [] [] hn a1 none none c1 0 0 w A hs h1 (RowAt.nil _ _) (IntsAt.nil _) hl1 (by simp) (by simp)).mono fun e w' ⟨⟨a, c, he, ho⟩, hb⟩ => ⟨⟨a, c, he, ho.bytes⟩, hb⟩
theorem zero_box {w : World} {r : Nat} {v0 v1 v2 v3 : Value} (h : BoxAt w r [v0, v1, v2, v3]) (u0 u1 u2 u3 : Value) :
    BoxAt ((((w.setCell ⟨r, 0, none⟩ u0).setCell ⟨r, 1, none⟩ u1).setCell ⟨r, 2, none⟩ u2).setCell ⟨r, 3, none⟩ u3) r [u0, u1, u2, u3] := by
  simpa [List.set] using (((h.put 0 u0).put 1 u1).put 2 u2).put 3 u3
/-- what the loop of a leaf's Get keeps -/
def GetL (w : World) (a : Option Addr) (c : Nat) (l : List UInt8) (s : Rd) (es : List Nd.Ent) (a1 : Option Addr) (c1 : Nat) (wr : World) : Prop :=
  BoxAt wr w.heap.size [.bool false, .slice none 0 0, .slice none 0 0, .slice none 0 0] ∧
  BoxAt wr (w.heap.size + 1) [.slice a l.length c, .int .i64 (s.pos : Int), .bool s.bad] ∧
  BoxAt wr (w.heap.size + 2) [.bool true, .slice a1 es.length c1, .slice none 0 0, .slice none 0 0] ∧
  OwnR eEnt wr (w.heap.size + 3) (.slice a1 es.length c1) es ∧ Below w.heap.size w wr
theorem GetL.rd {w : World} {a : Option Addr} {c : Nat} {l : List UInt8} {s s' : Rd} {es : List Nd.Ent} {a1 : Option Addr} {c1 : Nat} {wr wr' : World} (h : GetL w a c l s es a1 c1 wr)
    (hb : BoxAt wr' (w.heap.size + 1) [.slice a l.length c, .int .i64 (s'.pos : Int), .bool s'.bad]) (hg : wr.grownBy wr' (some (w.heap.size + 1))) : GetL w a c l s' es a1 c1 wr' := by
  obtain ⟨h1, h2, h3, h4, h5⟩ := h
  exact ⟨h1.grownR hg (by simp), hb, h3.grownR hg (by simp), h4.keep hg (by omega), h5.trans (grown_below hg (fun k hk => by simp at hk; omega) h5.size)⟩
theorem GetL.below {w : World} {a : Option Addr} {c : Nat} {l : List UInt8} {s : Rd} {es : List Nd.Ent} {a1 : Option Addr} {c1 : Nat} {wr wr' : World} (h : GetL w a c l s es a1 c1 wr) (hb : Below wr.heap.size wr wr') : GetL w a c l s es a1 c1 wr' := by
  obtain ⟨h1, h2, h3, h4, h5⟩ := h
  exact ⟨h1.below hb, h2.below hb, h3.below hb, h4.below hb (Nat.le_refl _), h5.trans (hb.mono h5.size)⟩
theorem GetL.size {w : World} {a : Option Addr} {c : Nat} {l : List UInt8} {s : Rd} {es : List Nd.Ent} {a1 : Option Addr} {c1 : Nat} {wr : World} (h : GetL w a c l s es a1 c1 wr) : w.heap.size + 3 ≤ wr.heap.size := h.2.2.1.lt
/-- a store into a block behind -/
theorem GetL.set {w : World} {a : Option Addr} {c : Nat} {l : List UInt8} {s : Rd} {es : List Nd.Ent} {a1 : Option Addr} {c1 : Nat} {wr : World} (h : GetL w a c l s es a1 c1 wr) {e j : Nat} (he : w.heap.size + 3 ≤ e) (hne : ∀ k, (Value.slice a1 es.length c1).ownBlock = some k → k ≠ e) (u : Value) : GetL w a c l s es a1 c1 (wr.setCell ⟨e, j, none⟩ u) := by
  obtain ⟨h1, h2, h3, h4, h5⟩ := h
  refine ⟨h1.set (by omega) _ _, h2.set (by omega) _ _, h3.set (by omega) _ _, h4.grown (grownBy_set (World.grownBy.refl _ (some e)) j u) ?_, h5.setCell (by simp; omega) _⟩
  cases hv : (Value.slice a1 es.length c1).ownBlock with
  | none => exact .inl rfl
  | some k => right; intro e'; simp at e'; exact hne k hv e'
theorem getL_ne {w : World} {a : Option Addr} {c : Nat} {l : List UInt8} {s : Rd} {es : List Nd.Ent} {a1 : Option Addr} {c1 : Nat} {wr : World} (h : GetL w a c l s es a1 c1 wr) (k : Nat) (hk : (Value.slice a1 es.length c1).ownBlock = some k) : k < wr.heap.size := (h.2.2.2.1.lt k hk).2
/-- the bytes that came in are not the reader's -/
theorem bytes_apart {w : World} {a : Option Addr} {c : Nat} {l : List UInt8} (hb : BytesAt w (.slice a l.length c) l) (r : Nat) (hr : w.heap.size ≤ r) (hl : 0 < l.length) : ∀ k, (Value.slice a l.length c).ownBlock = some k → k ≠ r := by
  intro k hk
  obtain ⟨a', c', e, q1, q2, q3⟩ := hb
  obtain ⟨rfl, rfl⟩ : a = a' ∧ c = c' := by injection e with e1 e2 e3; exact ⟨e1, e3⟩
  rcases q3 with rfl | ⟨b, o, rfl, hc⟩
  · simp at hl
  · simp only [Value.ownBlock, Option.some.injEq] at hk
    subst hk
    obtain ⟨x, hx⟩ := getElem?_some_of_lt hl
    have := World.block_lt_of_cell? w _ (hc 0 x hx)
    simp only at this
    omega
set_option maxRecDepth 100000 in
set_option maxHeartbeats 4000000 in
theorem nodeGet_leafAt (l : List UInt8) (fin : Bool) (hfin : leafOk l = fin) (a : Option Addr) (c : Nat) (w : World) (A : Nat → Addr) {S : Nat → Prop} [Has S 1] [Has S 2] (hs : SentsOn S w A) (hb : BytesAt w (.slice a l.length c) l) (hl : l.length ≤ 1000000) :
    Calls Tryd.prog 17 #[.bool true, .slice a l.length c] w fun e w' => (if fin = true then GivesNode w A true (leafG l).1 [] [] 0 e w' else GivesNode w A false [] [] [] 1 e w') ∧ Below w.heap.size w w' := by
  have HS := Lib.hid hs
  have HB := Lib.hid hb
  have HFIN := Lib.hid hfin
  obtain ⟨many, s0, hm⟩ : ∃ n s, numR l 2 rd0 = (n, s) := ⟨_, _, rfl⟩
  have hm6 : many < 65536 := by have := numR_lt l 2 rd0; rw [hm] at this; exact this
  have hp0 : s0.pos = 2 := by have := numR_pos l 2 rd0; rw [hm] at this; exact this
  have hge0 : s0.bad = false → s0.pos ≤ l.length := fun h => by
    have := numR_good (l := l) (x := 2) (s := rd0) (by rw [hm]; exact h)
    rw [hp0]; simpa [rd0] using this.2.1
  have hG : leafG l = leafR l s0 many := by unfold leafG manyR; rw [hm]
  have HM := Lib.hid hm
  have HG := Lib.hid hG
  have HGE := Lib.hid hge0
  clear hs hb hfin hm hG hge0
  go_enter Tryd.func17, Tryd.ntmps17
  go_upto_region 3 with fail
  refine wp_name fun W hW => ?_
  have HR := Lib.hid (show BoxAt W w.heap.size [.bool false, .slice none 0 0, .slice none 0 0, .slice none 0 0] by rw [hW]; exact ((BoxAt.new w [_, _, _, _] _).alloc _).alloc _)
  have HX := Lib.hid (show BoxAt W (w.heap.size + 1) [.slice a l.length c, .int .i64 ((rd0.pos : Nat) : Int), .bool rd0.bad] by rw [hW]; exact (BoxAt.newAt _ _ (by simp) [_, _, _] _).alloc _)
  have HN := Lib.hid (show BoxAt W (w.heap.size + 2) [.bool true, .slice none 0 0, .slice none 0 0, .slice none 0 0] by rw [hW]; exact BoxAt.newAt _ _ (by simp) [_, _, _, _] _)
  have HB0 := Lib.hid (show Below w.heap.size w W by rw [hW]; go_grown)
  clear hW
  have HL0 := Lib.hid (show GetL w a c l rd0 [] none 0 W from ⟨HR.out, HX.out, HN.out, OwnR.nil _ _ _, HB0.out⟩)
  have hpos0 : rd0.pos ≤ 90000000 := by simp [rd0]
  have g1 : w.cell? ⟨0, 0, none⟩ = some (.iface 189 (.pointer (some (A 1)))) := HS.out.cell 1 (by decide) (by decide)
  have l1 := World.block_lt_of_cell? w _ g1
  simp only at l1
  have L1 := Lib.hid l1
  have G1 := Lib.hid g1
  clear l1 g1
  go_upto_region 7 with (go_at_call 52; (refine (rdNum_is _ 2 _ _ l rd0 s0 many HM.out rfl _ A (HS.out.below HB0.out) (HB.out.below HB0.out) HX.out (by decide) (by decide) (Nat.le_trans hpos0 (by decide))).mono ?_); (rintro e w1 ⟨rfl, hx1, hg1⟩); (have HL1 := Lib.hid (HL0.out.rd hx1 hg1)); (clear hx1 hg1))
  go_wp2_with fail
  go_loopw [9] (fun i wr => ∃ k es s a1 c1, k ≤ many ∧ i = .int .i64 (k : Nat) ∧ leafR l s0 k = (es, s) ∧ (s.bad = false → s.pos ≤ l.length) ∧ GetL w a c l s es a1 c1 wr) (fun i _ => many - (intOf i).toNat)
  case atStart => exact ⟨0, [], s0, none, 0, by omega, rfl, rfl, HGE.out, HL1.out⟩
  case round =>
    obtain ⟨k, es, s, a1, c1, hk, rfl, hls, hsp, hgl⟩ := hrel
    have hel : es.length ≤ 1000000 := by have := leafR_len l s0 k; rw [hls] at this; simp only at this; omega
    have HLS := Lib.hid hls
    have HGL := Lib.hid hgl
    obtain ⟨x0, x1, x2⟩ := hgl.2.1.three
    obtain ⟨n0, n1, n2, n3⟩ := hgl.2.2.1.four
    clear hls hgl
    by_cases hlt : k < many
    · have hlt1 : (k : Int) < (many : Int) := by omega
      cases hbd : s.bad with
      | true =>
        rw [hbd] at x2
        have hf : fin = false := by rw [← HFIN.out]; unfold leafOk; rw [HG.out, leafR_bad HLS.out hbd hk]; simp [hbd]
        subst hf
        clear HFIN
        go_wp2_with (first
          | (go_at_call 16; (refine (nodePutL_any es a1 c1 _ A (HS.out.below HGL.out.2.2.2.2) (HGL.out.2.2.2.1.at eEnt_ok) hel).mono ?_); (rintro e w2 ⟨⟨v, ev, rfl⟩, hb2⟩); (have HL2 := Lib.hid (HGL.out.below hb2)); (clear x0 x1 x2 n0 n1 n2 n3); (obtain ⟨x0, x1, x2⟩ := HL2.out.2.1.three); (rw [hbd] at x2); (have gs := (HL2.out.2.2.2.2.cell (p := ⟨0, 0, none⟩) L1.out).trans G1.out); (clear hb2))
          | (go_at_call 55; (refine (faultNew_any _ 1 _ _ A _ (sent_err 1 (by decide) (by decide)) (by decide) (Nat.le_refl _)).mono ?_); (rintro e wn ⟨⟨vn, rfl, hvn⟩, hbn⟩); (have HLn := Lib.hid (HL2.out.below hbn)); (have HVn := Lib.hid (hvn.mono (B' := w.heap.size + 1) (by have := HL2.out.size; omega))); (obtain ⟨z0, z1, z2, z3⟩ := HLn.out.1.four); (have f0 := HLn.out.1.free 0 _ rfl); (have f1 := HLn.out.1.free 1 _ rfl); (have f2 := HLn.out.1.free 2 _ rfl); (have f3 := HLn.out.1.free 3 _ rfl); (clear hbn hvn)))
        have hz := zero_box HLn.out.1 (.bool false) (.slice none 0 0) (.slice none 0 0) (.slice none 0 0)
        obtain ⟨k0, k1, k2, k3⟩ := hz.four
        refine bodyPost_ret (v := .tuple #[.agg #[.bool false, .slice none 0 0, .slice none 0 0, .slice none 0 0], vn]) (by simp [results, Tryd.results17, go_sem, k0, k1, k2, k3]) rfl ?_
        refine ⟨?_, (((HLn.out.2.2.2.2.setCell (Nat.le_refl _) _).setCell (Nat.le_refl _) _).setCell (Nat.le_refl _) _).setCell (Nat.le_refl _) _⟩
        try rw [if_neg (by decide)]
        exact ⟨none, none, none, 0, 0, 0, vn, [-1], rfl, OwnR.nil _ _ _, OwnR.nil _ _ _, OwnI.nil _ _, ((((HVn.out.setLow _ (Nat.lt_succ_self _)).setLow _ (Nat.lt_succ_self _)).setLow _ (Nat.lt_succ_self _)).setLow _ (Nat.lt_succ_self _)).mono (Nat.le_succ _)⟩
      | false =>
        rw [hbd] at x2
        have hsp2 := hsp hbd
        clear hsp
        obtain ⟨t, s1, h1⟩ : ∃ t s1, textR l s = (t, s1) := ⟨_, _, rfl⟩
        obtain ⟨kd, s2, h2⟩ : ∃ n s2, numR l 1 s1 = (n, s2) := ⟨_, _, rfl⟩
        have p1 : s1.pos ≤ s.pos + 256 := by have := textR_pos l s; rw [h1] at this; exact this
        have p2 : s2.pos = s1.pos + 1 := by have := numR_pos l 1 s1; rw [h2] at this; exact this
        have hk2 : kindR l s = (kd, s2) := by unfold kindR; rw [h1]; exact h2
        have T1 := Lib.hid h1
        have T2 := Lib.hid h2
        go_upto_region 14 with (go_at_call 53; (refine (rdText_is _ a c l s s1 t T1.out _ A (HS.out.below HGL.out.2.2.2.2) (HB.out.below HGL.out.2.2.2.2) (fun h => bytes_apart HB.out _ (Nat.le_succ _) h) HGL.out.2.1 (by omega) (by omega)).mono ?_); (rintro e wa ⟨rfl, hxa, hga⟩); (have HLa := Lib.hid (HGL.out.rd hxa hga)); (clear hxa hga))
        refine wp_name fun U hU => ?_
        obtain ⟨eb, heb⟩ : ∃ eb, wa.heap.size = eb := ⟨_, rfl⟩
        have HE := Lib.hid (show BoxAt U eb [.string t, .string ⟨#[]⟩, .int .i64 0, .int .i64 0] by rw [hU]; exact BoxAt.newAt _ _ heb [_, _, _, _] _)
        have HLU := Lib.hid (show GetL w a c l s1 es a1 c1 U by rw [hU]; exact HLa.out.below ((Below.refl _ _).alloc (Nat.le_refl _) _))
        have hebl : w.heap.size + 3 ≤ eb := by rw [← heb]; exact HLa.out.size
        have hne : ∀ k, (Value.slice a1 es.length c1).ownBlock = some k → k ≠ eb := fun k hk => by have := getL_ne HLa.out k hk; omega
        have HNE := Lib.hid hne
        rw [heb]
        clear hU heb x0 x1 x2 n0 n1 n2 n3 hne
        by_cases hkd : kd = 0
        · obtain ⟨v, s3, h3⟩ : ∃ v s3, textR l s2 = (v, s3) := ⟨_, _, rfl⟩
          have h1R : oneR l s = (⟨t, v, 0, 0⟩, s3) := by unfold oneR valR; rw [hk2, h1]; simp only; rw [if_pos hkd, h3]
          have HST := Lib.hid (leafR_at HLS.out hbd h1R)
          have HSP := Lib.hid (show s3.bad = false → s3.pos ≤ l.length from fun h => by have := oneR_end (l := l) (s := s); rw [h1R] at this; exact this h)
          have T3 := Lib.hid h3
          subst hkd
          clear h1 h2 h3 hk2 h1R
          go_upto_region 17 with (first
            | (go_at_call 53; (refine (rdText_is _ a c l s2 s3 v T3.out _ A (HS.out.below HLc.out.2.2.2.2) (HB.out.below HLc.out.2.2.2.2) (fun h => bytes_apart HB.out _ (Nat.le_succ _) h) HLc.out.2.1 (by omega) (by omega)).mono ?_); (rintro e wd ⟨rfl, hxd, hgd⟩); (have HLd := Lib.hid (HLc.out.rd hxd hgd)); (have HEd := Lib.hid (HEc.out.grownR hgd (by simp; omega))); (have e1 := HEd.out.at 1 _ rfl); (have ef1 := HEd.out.free 1 _ rfl); (clear hxd hgd))
            | (go_at_call 52; (refine (rdNum_is _ 1 _ _ l s1 s2 0 T2.out rfl _ A (HS.out.below HLU.out.2.2.2.2) (HB.out.below HLU.out.2.2.2.2) HLU.out.2.1 (by decide) (by decide) (by omega)).mono ?_); (rintro e wc ⟨rfl, hxc, hgc⟩); (have HLc := Lib.hid (HLU.out.rd hxc hgc)); (have HEc := Lib.hid (HE.out.grownR hgc (by simp; omega))); (clear hxc hgc)))
          refine wp_name fun V hV => ?_
          have HEV := Lib.hid (show BoxAt V eb [.string t, .string v, .int .i64 0, .int .i64 0] by rw [hV]; simpa [List.set] using HEd.out.put 1 (.string v))
          have HLVV := Lib.hid (show GetL w a c l s3 es a1 c1 V by rw [hV]; exact HLd.out.set hebl HNE.out _)
          clear hV e1 ef1
          obtain ⟨n0, n1, n2, n3⟩ := HLVV.out.2.2.1.four
          obtain ⟨e0, e1, e2, e3⟩ := HEV.out.four
          go_wp2_with (at_builtin; (refine wpList_append_row eEnt eEnt_ok rfl (.tmp 76) (.tmp 78) rfl (w.heap.size + 3) _ es rfl (HLVV.out.2.2.2.1.alloc _) (.slice (some ⟨V.heap.size, 0, none⟩) 1 1) [(⟨t, v, 0, 0⟩ : Nd.Ent)] rfl (RowAt.one (E := eEnt) V (⟨t, v, 0, 0⟩ : Nd.Ent) #[.string t, .string v, .int .i64 0, .int .i64 0] 44 rfl V.heap.size rfl) (by simp; omega) (by simp; omega) (by have := HLVV.out.size; simp; omega) ?_))
          intro v2 w2 hown hgrow _
          obtain ⟨a2, c2, hv2, -, -⟩ := hown.slice
          subst hv2
          have HLV := Lib.hid (HLVV.out.below ((Below.refl _ _).alloc (Nat.le_refl _) (.cells #[.string t, .string v, .int .i64 0, .int .i64 0] 44)))
          have hob : ∀ k, (Value.slice a1 es.length c1).ownBlock = some k → w.heap.size + 3 ≤ k := fun k hk => (HLV.out.2.2.2.1.lt k hk).1
          have h1 := HLV.out.1.grownR hgrow (fun e => by have := hob _ e; omega)
          have h2 := HLV.out.2.1.grownR hgrow (fun e => by have := hob _ e; omega)
          have h3 := HLV.out.2.2.1.grownR hgrow (fun e => by have := hob _ e; omega)
          have h5 := HLV.out.2.2.2.2.trans (grown_below hgrow (fun k hk => by have := hob _ hk; omega) HLV.out.2.2.2.2.size)
          have n1 := h3.at 1 _ rfl
          have f1 := h3.free 1 _ rfl
          have H1 := Lib.hid h1
          have H2 := Lib.hid h2
          have H3 := Lib.hid h3
          have H5 := Lib.hid h5
          have HO := Lib.hid hown
          clear h1 h2 h3 h5 hown hgrow n0 n2 n3 e0 e1 e2 e3 hob
          go_wp2_with fail
          go_roundw
          case rel => exact ⟨k + 1, es ++ [(⟨t, v, 0, 0⟩ : Nd.Ent)], s3, a2, c2, by omega, by go_num, HST.out, fun h => HSP.out h, H1.out.set (by omega) _ _, H2.out.set (by omega) _ _, by simpa [List.set] using H3.out.put 1 (.slice a2 (es ++ [(⟨t, v, 0, 0⟩ : Nd.Ent)]).length c2), HO.out.keep (grownBy_set (World.grownBy.refl _ (some (w.heap.size + 2))) 1 _) (by omega), H5.out.setCell (by simp; omega) _⟩
          case measure => simp [intOf]; omega
        · obtain ⟨n3', s3, h3⟩ : ∃ n s3, numR l 4 s2 = (n, s3) := ⟨_, _, rfl⟩
          obtain ⟨n4', s4, h4⟩ : ∃ n s4, numR l 4 s3 = (n, s4) := ⟨_, _, rfl⟩
          have p3 : s3.pos = s2.pos + 4 := by have := numR_pos l 4 s2; rw [h3] at this; exact this
          have h1R : oneR l s = (⟨t, ⟨#[]⟩, (n3' : Int), (n4' : Int)⟩, s4) := by
            unfold oneR szR chR
            rw [hk2, h1]; simp only; rw [if_neg hkd, h3]; simp only; rw [h4]
          have HST := Lib.hid (leafR_at HLS.out hbd h1R)
          have HSP := Lib.hid (show s4.bad = false → s4.pos ≤ l.length from fun h => by have := oneR_end (l := l) (s := s); rw [h1R] at this; exact this h)
          have T3 := Lib.hid h3
          have T4 := Lib.hid h4
          have hkb : ((kd : Int) == 0) = false := by simp; exact hkd
          clear h1 h2 h3 h4 hk2 h1R hkd
          go_upto_region 17 with (first
            | (go_at_call 52; (refine (rdNum_is _ 4 _ _ l s3 s4 n4' T4.out rfl _ A (HS.out.below HLd.out.2.2.2.2) (HB.out.below HLd.out.2.2.2.2) HLd.out.2.1 (by decide) (by decide) (by omega)).mono ?_); (rintro e we ⟨rfl, hxe, hge⟩); (have HLe := Lib.hid (HLd.out.rd hxe hge)); (have HEe := Lib.hid (HEd.out.grownR hge (by simp; omega))); (have e2 := HEe.out.at 2 _ rfl); (have e3 := HEe.out.at 3 _ rfl); (have ef2 := HEe.out.free 2 _ rfl); (have ef3 := HEe.out.free 3 _ rfl); (clear hxe hge))
            | (go_at_call 52; (refine (rdNum_is _ 4 _ _ l s2 s3 n3' T3.out rfl _ A (HS.out.below HLc.out.2.2.2.2) (HB.out.below HLc.out.2.2.2.2) HLc.out.2.1 (by decide) (by decide) (by omega)).mono ?_); (rintro e wd ⟨rfl, hxd, hgd⟩); (have HLd := Lib.hid (HLc.out.rd hxd hgd)); (have HEd := Lib.hid (HEc.out.grownR hgd (by simp; omega))); (clear hxd hgd))
            | (go_at_call 52; (refine (rdNum_is _ 1 _ _ l s1 s2 kd T2.out rfl _ A (HS.out.below HLU.out.2.2.2.2) (HB.out.below HLU.out.2.2.2.2) HLU.out.2.1 (by decide) (by decide) (by omega)).mono ?_); (rintro e wc ⟨rfl, hxc, hgc⟩); (have HLc := Lib.hid (HLU.out.rd hxc hgc)); (have HEc := Lib.hid (HE.out.grownR hgc (by simp; omega))); (clear hxc hgc)))
          refine wp_name fun V hV => ?_
          have HEV := Lib.hid (show BoxAt V eb [.string t, .string ⟨#[]⟩, .int .i64 (n3' : Int), .int .i64 (n4' : Int)] by rw [hV]; simpa [List.set] using (HEe.out.put 2 (.int .i64 (n3' : Int))).put 3 (.int .i64 (n4' : Int)))
          have HLVV := Lib.hid (show GetL w a c l s4 es a1 c1 V by rw [hV]; exact (HLe.out.set hebl HNE.out _).set hebl HNE.out _)
          clear hV e2 e3 ef2 ef3
          obtain ⟨n0, n1, n2, n3⟩ := HLVV.out.2.2.1.four
          obtain ⟨e0, e1, e2, e3⟩ := HEV.out.four
          go_wp2_with (at_builtin; (refine wpList_append_row eEnt eEnt_ok rfl (.tmp 76) (.tmp 78) rfl (w.heap.size + 3) _ es rfl (HLVV.out.2.2.2.1.alloc _) (.slice (some ⟨V.heap.size, 0, none⟩) 1 1) [(⟨t, ⟨#[]⟩, (n3' : Int), (n4' : Int)⟩ : Nd.Ent)] rfl (RowAt.one (E := eEnt) V (⟨t, ⟨#[]⟩, (n3' : Int), (n4' : Int)⟩ : Nd.Ent) #[.string t, .string ⟨#[]⟩, .int .i64 (n3' : Int), .int .i64 (n4' : Int)] 44 rfl V.heap.size rfl) (by simp; omega) (by simp; omega) (by have := HLVV.out.size; simp; omega) ?_))
          intro v2 w2 hown hgrow _
          obtain ⟨a2, c2, hv2, -, -⟩ := hown.slice
          subst hv2
          have HLV := Lib.hid (HLVV.out.below ((Below.refl _ _).alloc (Nat.le_refl _) (.cells #[.string t, .string ⟨#[]⟩, .int .i64 (n3' : Int), .int .i64 (n4' : Int)] 44)))
          have hob : ∀ k, (Value.slice a1 es.length c1).ownBlock = some k → w.heap.size + 3 ≤ k := fun k hk => (HLV.out.2.2.2.1.lt k hk).1
          have h1 := HLV.out.1.grownR hgrow (fun e => by have := hob _ e; omega)
          have h2 := HLV.out.2.1.grownR hgrow (fun e => by have := hob _ e; omega)
          have h3 := HLV.out.2.2.1.grownR hgrow (fun e => by have := hob _ e; omega)
          have h5 := HLV.out.2.2.2.2.trans (grown_below hgrow (fun k hk => by have := hob _ hk; omega) HLV.out.2.2.2.2.size)
          have n1 := h3.at 1 _ rfl
          have f1 := h3.free 1 _ rfl
          have H1 := Lib.hid h1
          have H2 := Lib.hid h2
          have H3 := Lib.hid h3
          have H5 := Lib.hid h5
          have HO := Lib.hid hown
          clear h1 h2 h3 h5 hown hgrow n0 n2 n3 e0 e1 e2 e3 hob
          go_wp2_with fail
          go_roundw
          case rel => exact ⟨k + 1, es ++ [(⟨t, ⟨#[]⟩, (n3' : Int), (n4' : Int)⟩ : Nd.Ent)], s4, a2, c2, by omega, by go_num, HST.out, fun h => HSP.out h, H1.out.set (by omega) _ _, H2.out.set (by omega) _ _, by simpa [List.set] using H3.out.put 1 (.slice a2 (es ++ [(⟨t, ⟨#[]⟩, (n3' : Int), (n4' : Int)⟩ : Nd.Ent)]).length c2), HO.out.keep (grownBy_set (World.grownBy.refl _ (some (w.heap.size + 2))) 1 _) (by omega), H5.out.setCell (by simp; omega) _⟩
          case measure => simp [intOf]; omega
    · have hkk : k = many := by omega
      have hge1 : (many : Int) ≤ (k : Int) := by omega
      cases hbd : s.bad with
      | true =>
        rw [hbd] at x2
        have hf : fin = false := by rw [← HFIN.out]; unfold leafOk; rw [HG.out, leafR_bad HLS.out hbd hk]; simp [hbd]
        subst hf
        clear HFIN
        go_wp2_with (first
          | (go_at_call 16; (refine (nodePutL_any es a1 c1 _ A (HS.out.below HGL.out.2.2.2.2) (HGL.out.2.2.2.1.at eEnt_ok) hel).mono ?_); (rintro e w2 ⟨⟨v, ev, rfl⟩, hb2⟩); (have HL2 := Lib.hid (HGL.out.below hb2)); (clear x0 x1 x2 n0 n1 n2 n3); (obtain ⟨x0, x1, x2⟩ := HL2.out.2.1.three); (rw [hbd] at x2); (have gs := (HL2.out.2.2.2.2.cell (p := ⟨0, 0, none⟩) L1.out).trans G1.out); (clear hb2))
          | (go_at_call 55; (refine (faultNew_any _ 1 _ _ A _ (sent_err 1 (by decide) (by decide)) (by decide) (Nat.le_refl _)).mono ?_); (rintro e wn ⟨⟨vn, rfl, hvn⟩, hbn⟩); (have HLn := Lib.hid (HL2.out.below hbn)); (have HVn := Lib.hid (hvn.mono (B' := w.heap.size + 1) (by have := HL2.out.size; omega))); (obtain ⟨z0, z1, z2, z3⟩ := HLn.out.1.four); (have f0 := HLn.out.1.free 0 _ rfl); (have f1 := HLn.out.1.free 1 _ rfl); (have f2 := HLn.out.1.free 2 _ rfl); (have f3 := HLn.out.1.free 3 _ rfl); (clear hbn hvn)))
        have hz := zero_box HLn.out.1 (.bool false) (.slice none 0 0) (.slice none 0 0) (.slice none 0 0)
        obtain ⟨k0, k1, k2, k3⟩ := hz.four
        refine bodyPost_ret (v := .tuple #[.agg #[.bool false, .slice none 0 0, .slice none 0 0, .slice none 0 0], vn]) (by simp [results, Tryd.results17, go_sem, k0, k1, k2, k3]) rfl ?_
        refine ⟨?_, (((HLn.out.2.2.2.2.setCell (Nat.le_refl _) _).setCell (Nat.le_refl _) _).setCell (Nat.le_refl _) _).setCell (Nat.le_refl _) _⟩
        try rw [if_neg (by decide)]
        exact ⟨none, none, none, 0, 0, 0, vn, [-1], rfl, OwnR.nil _ _ _, OwnR.nil _ _ _, OwnI.nil _ _, ((((HVn.out.setLow _ (Nat.lt_succ_self _)).setLow _ (Nat.lt_succ_self _)).setLow _ (Nat.lt_succ_self _)).setLow _ (Nat.lt_succ_self _)).mono (Nat.le_succ _)⟩
      | false =>
        rw [hbd] at x2
        have HLG := Lib.hid (show leafG l = (es, s) by rw [HG.out, ← hkk]; exact HLS.out)
        have hlk : leafOk l = (nodeB true es [] [] && (nodeL true es [] [] == l)) := by unfold leafOk; rw [HLG.out]; simp [hbd]
        cases hn : nodeB true es [] [] with
        | false =>
          have HNB := Lib.hid hn
          have hf : fin = false := by rw [← HFIN.out, hlk, hn]; rfl
          clear hlk hn
          subst hf
          clear HFIN
          go_wp2_with (first
            | (go_at_call 16; (refine (nodePutL_bad es HNB.out a1 c1 _ A (HS.out.below HGL.out.2.2.2.2) (HGL.out.2.2.2.1.at eEnt_ok) hel).mono ?_); (rintro e w2 ⟨⟨t, x, rfl⟩, hb2⟩); (have HL2 := Lib.hid (HGL.out.below hb2)); (clear x0 x1 x2 n0 n1 n2 n3); (obtain ⟨x0, x1, x2⟩ := HL2.out.2.1.three); (rw [hbd] at x2); (have gs := (HL2.out.2.2.2.2.cell (p := ⟨0, 0, none⟩) L1.out).trans G1.out); (clear hb2))
            | (go_at_call 55; (refine (faultNew_any _ 1 _ _ A _ (sent_err 1 (by decide) (by decide)) (by decide) (Nat.le_refl _)).mono ?_); (rintro e wn ⟨⟨vn, rfl, hvn⟩, hbn⟩); (have HLn := Lib.hid (HL2.out.below hbn)); (have HVn := Lib.hid (hvn.mono (B' := w.heap.size + 1) (by have := HL2.out.size; omega))); (obtain ⟨z0, z1, z2, z3⟩ := HLn.out.1.four); (have f0 := HLn.out.1.free 0 _ rfl); (have f1 := HLn.out.1.free 1 _ rfl); (have f2 := HLn.out.1.free 2 _ rfl); (have f3 := HLn.out.1.free 3 _ rfl); (clear hbn hvn)))
          have hz := zero_box HLn.out.1 (.bool false) (.slice none 0 0) (.slice none 0 0) (.slice none 0 0)
          obtain ⟨k0, k1, k2, k3⟩ := hz.four
          refine bodyPost_ret (v := .tuple #[.agg #[.bool false, .slice none 0 0, .slice none 0 0, .slice none 0 0], vn]) (by simp [results, Tryd.results17, go_sem, k0, k1, k2, k3]) rfl ?_
          refine ⟨?_, (((HLn.out.2.2.2.2.setCell (Nat.le_refl _) _).setCell (Nat.le_refl _) _).setCell (Nat.le_refl _) _).setCell (Nat.le_refl _) _⟩
          try rw [if_neg (by decide)]
          exact ⟨none, none, none, 0, 0, 0, vn, [-1], rfl, OwnR.nil _ _ _, OwnR.nil _ _ _, OwnI.nil _ _, ((((HVn.out.setLow _ (Nat.lt_succ_self _)).setLow _ (Nat.lt_succ_self _)).setLow _ (Nat.lt_succ_self _)).setLow _ (Nat.lt_succ_self _)).mono (Nat.le_succ _)⟩
        | true =>
          have HNB := Lib.hid hn
          obtain ⟨L, hL⟩ : ∃ L, nodeL true es [] [] = L := ⟨_, rfl⟩
          have HL := Lib.hid hL
          have HFE := Lib.hid (show (L == l) = fin by rw [← HFIN.out, hlk, hn, hL]; rfl)
          clear hlk hn hL
          cases fin with
          | false =>
            have HEQ := HFE
            have hf := True.intro
            clear HFIN hf
            go_wp2_with (first
              | (go_at_call 16; (refine (nodePutL_ok es HNB.out L HL.out a1 c1 _ A (HS.out.below HGL.out.2.2.2.2) (HGL.out.2.2.2.1.at eEnt_ok) hel).mono ?_); (rintro e w2 ⟨⟨ay, cy, rfl, hy2⟩, hb2⟩); (have HL2 := Lib.hid (HGL.out.below hb2)); (clear x0 x1 x2 n0 n1 n2 n3); (obtain ⟨x0, x1, x2⟩ := HL2.out.2.1.three); (rw [hbd] at x2); (have HY2 := Lib.hid hy2); (clear hy2); (clear hb2))
              | (go_at_call 54; (refine (equal_is _ _ L l false HEQ.out _ HY2.out (HB.out.below HL2.out.2.2.2.2)).mono ?_); (rintro e w3 ⟨rfl, hb3⟩); (have HLy := Lib.hid (HL2.out.below hb3)); (have gs := (HLy.out.2.2.2.2.cell (p := ⟨0, 0, none⟩) L1.out).trans G1.out); (clear hb3))
              | (go_at_call 55; (refine (faultNew_any _ 1 _ _ A _ (sent_err 1 (by decide) (by decide)) (by decide) (Nat.le_refl _)).mono ?_); (rintro e wn ⟨⟨vn, rfl, hvn⟩, hbn⟩); (have HLn := Lib.hid (HLy.out.below hbn)); (have HVn := Lib.hid (hvn.mono (B' := w.heap.size + 1) (by have := HLy.out.size; omega))); (obtain ⟨z0, z1, z2, z3⟩ := HLn.out.1.four); (have f0 := HLn.out.1.free 0 _ rfl); (have f1 := HLn.out.1.free 1 _ rfl); (have f2 := HLn.out.1.free 2 _ rfl); (have f3 := HLn.out.1.free 3 _ rfl); (clear hbn hvn)))
            have hz := zero_box HLn.out.1 (.bool false) (.slice none 0 0) (.slice none 0 0) (.slice none 0 0)
            obtain ⟨k0, k1, k2, k3⟩ := hz.four
            refine bodyPost_ret (v := .tuple #[.agg #[.bool false, .slice none 0 0, .slice none 0 0, .slice none 0 0], vn]) (by simp [results, Tryd.results17, go_sem, k0, k1, k2, k3]) rfl ?_
            refine ⟨?_, (((HLn.out.2.2.2.2.setCell (Nat.le_refl _) _).setCell (Nat.le_refl _) _).setCell (Nat.le_refl _) _).setCell (Nat.le_refl _) _⟩
            try rw [if_neg (by decide)]
            exact ⟨none, none, none, 0, 0, 0, vn, [-1], rfl, OwnR.nil _ _ _, OwnR.nil _ _ _, OwnI.nil _ _, ((((HVn.out.setLow _ (Nat.lt_succ_self _)).setLow _ (Nat.lt_succ_self _)).setLow _ (Nat.lt_succ_self _)).setLow _ (Nat.lt_succ_self _)).mono (Nat.le_succ _)⟩
          | true =>
            have HEQ := HFE
            go_wp2_with (first
              | (go_at_call 16; (refine (nodePutL_ok es HNB.out L HL.out a1 c1 _ A (HS.out.below HGL.out.2.2.2.2) (HGL.out.2.2.2.1.at eEnt_ok) hel).mono ?_); (rintro e w2 ⟨⟨ay, cy, rfl, hy2⟩, hb2⟩); (have HL2 := Lib.hid (HGL.out.below hb2)); (clear x0 x1 x2 n0 n1 n2 n3); (obtain ⟨x0, x1, x2⟩ := HL2.out.2.1.three); (rw [hbd] at x2); (have HY2 := Lib.hid hy2); (clear hy2); (clear hb2))
              | (go_at_call 54; (refine (equal_is _ _ L l true HEQ.out _ HY2.out (HB.out.below HL2.out.2.2.2.2)).mono ?_); (rintro e w3 ⟨rfl, hb3⟩); (have HLy := Lib.hid (HL2.out.below hb3)); (obtain ⟨z0, z1, z2, z3⟩ := HLy.out.1.four); (have f0 := HLy.out.1.free 0 _ rfl); (have f1 := HLy.out.1.free 1 _ rfl); (have f2 := HLy.out.1.free 2 _ rfl); (have f3 := HLy.out.1.free 3 _ rfl); (obtain ⟨n0, n1, n2, n3⟩ := HLy.out.2.2.1.four); (clear hb3)))
            have hz := zero_box HLy.out.1 (.bool true) (.slice a1 es.length c1) (.slice none 0 0) (.slice none 0 0)
            obtain ⟨k0, k1, k2, k3⟩ := hz.four
            refine bodyPost_ret (v := .tuple #[.agg #[.bool true, .slice a1 es.length c1, .slice none 0 0, .slice none 0 0], .nilIface]) (by simp [results, Tryd.results17, go_sem, k0, k1, k2, k3]) rfl ?_
            refine ⟨?_, (((HLy.out.2.2.2.2.setCell (Nat.le_refl _) _).setCell (Nat.le_refl _) _).setCell (Nat.le_refl _) _).setCell (Nat.le_refl _) _⟩
            try rw [if_pos rfl]
            rw [HLG.out]
            have hq := HLy.out.2.2.2.1
            exact ⟨a1, none, none, c1, 0, 0, _, [], rfl, ((((hq.keep (grownBy_set (World.grownBy.refl _ (some w.heap.size)) 0 _) (by omega)).keep (grownBy_set (World.grownBy.refl _ (some w.heap.size)) 1 _) (by omega)).keep (grownBy_set (World.grownBy.refl _ (some w.heap.size)) 2 _) (by omega)).keep (grownBy_set (World.grownBy.refl _ (some w.heap.size)) 3 _) (by omega)).mono (by omega), OwnR.nil _ _ _, OwnI.nil _ _, ErrIs.nil _ _ _⟩
end Go.Proofs.YtlobelfnjabajaaDoor
