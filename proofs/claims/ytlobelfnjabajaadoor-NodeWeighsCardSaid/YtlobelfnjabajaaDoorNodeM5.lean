/- merged: Node14, Node15, Node16, Node17 -/
import Derived.Test.YtlobelfnjabajaaDoorNodeM4
import Derived.Test.YtlobelfnjabajaaDoorFieldNum
import Derived.Deep.RegionHeld3
/- nodes: Put of a right leaf -/
namespace Go.Proofs.YtlobelfnjabajaaDoor
open Go.RowKit
set_option linter.unusedVariables false
set_option linter.unusedSimpArgs false

theorem row_at {w : World} {r : Nat} {cs : Array Value} {t : TypeId} (h : w.heap[r]? = some (.cells cs t (0, 0))) (i : Nat) (v : Value) (hv : cs[i]? = some v) : w.cell? ⟨r, i, none⟩ = some v := by
  rw [cell_of_row _ r i cs t (0, 0) h]; exact hv
theorem row4 {w : World} {r : Nat} {v0 v1 v2 v3 : Value} {t : TypeId} (h : w.heap[r]? = some (.cells #[v0, v1, v2, v3] t (0, 0))) :
    w.cell? ⟨r, 0, none⟩ = some v0 ∧ w.cell? ⟨r, 1, none⟩ = some v1 ∧ w.cell? ⟨r, 2, none⟩ = some v2 ∧ w.cell? ⟨r, 3, none⟩ = some v3 := ⟨row_at h 0 _ rfl, row_at h 1 _ rfl, row_at h 2 _ rfl, row_at h 3 _ rfl⟩
theorem WrAt.alloc {w : World} {g : Nat} {l : List UInt8} (h : WrAt w g l) (o : Obj) : WrAt (w.alloc o) g l := by
  obtain ⟨a, c, h1, h2⟩ := h
  exact ⟨a, c, h1.alloc o, h2.alloc o⟩
theorem WrAt.lt {w : World} {g : Nat} {l : List UInt8} (h : WrAt w g l) : g < w.heap.size := by obtain ⟨a, c, h1, h2⟩ := h; exact h1.lt
theorem wrNum_is (g : Nat) (l M : List UInt8) (N X : Int) (n x : Nat) (hM : l ++ Fld.le x n = M) (hN : N = (n : Int)) (hX : X = (x : Int)) (w : World) (h : WrAt w g l) (hr : Fld.right (x : Int) = true) (hn : n < 256 ^ x) (hn6 : n < 4294967296) (hlen : l.length ≤ 100000000) :
    Calls Tryd.prog 50 #[.pointer (some ⟨g, 0, none⟩), .int .i64 N, .int .i64 X] w fun e w' => e = .returned (.tuple #[]) ∧ WrAt w' g M ∧ Below g w w' ∧ KeepsBut g w w' := by
  subst hM; exact writerNum_ok g n x N X l w h hN hX hr hn hn6 hlen
theorem wrText_is (g : Nat) (l M : List UInt8) (s : ByteArray) (hM : l ++ txtL s = M) (w : World) (h : WrAt w g l) (hs : s.size < 256) (hlen : l.length ≤ 90000000) :
    Calls Tryd.prog 51 #[.pointer (some ⟨g, 0, none⟩), .string s] w fun e w' => e = .returned (.tuple #[]) ∧ WrAt w' g M ∧ Below g w w' ∧ KeepsBut g w w' := by
  subst hM
  have := writerText_ok g s l w h hs hlen
  rw [List.append_assoc] at this
  exact this
set_option maxRecDepth 100000 in
set_option maxHeartbeats 4000000 in
theorem nodePut_leaf {S : Nat → Prop} [Has S 1] (es : List Nd.Ent) (ks : List ByteArray) (ki : List Int) (hn : nodeB true es ks ki = true) (a1 a2 a3 : Option Addr) (c1 c2 c3 : Nat) (w : World) (A : Nat → Addr) (hs : SentsOn S w A) (h1 : RowAt eEnt w (.slice a1 es.length c1) es) (h2 : RowAt eStr w (.slice a2 ks.length c2) ks) (h3 : IntsAt w (.slice a3 ki.length c3) ki) (hl1 : es.length ≤ 1000000) (hl2 : ks.length ≤ 1000000) (hl3 : ki.length ≤ 1000000) :
    Calls Tryd.prog 16 #[.agg #[.bool true, .slice a1 es.length c1, .slice a2 ks.length c2, .slice a3 ki.length c3]] w fun e w' => (∃ a c, e = .returned (.tuple #[.slice a (nodeL true es ks ki).length c, .nilIface]) ∧ Own w' w.heap.size (.slice a (nodeL true es ks ki).length c) (nodeL true es ks ki)) ∧ Below w.heap.size w w' := by
  have hnb := hn
  unfold nodeB leafB at hnb
  simp at hnb
  obtain ⟨⟨hek, -, -, -⟩, hel⟩ := hnb
  have hfew := ents_few hek
  have H1 := Lib.hid h1
  have H2 := Lib.hid h2
  have H3 := Lib.hid h3
  have HS := Lib.hid hs
  have HN := Lib.hid hn
  have HEK := Lib.hid hek
  have HFEW := Lib.hid hfew
  have HL1 := Lib.hid hl1
  have HL2 := Lib.hid hl2
  have HL3 := Lib.hid hl3
  have HNL := Lib.hid (show nodeL true es ks ki = Fld.le 2 es.length ++ entsL es es.length from rfl)
  clear h1 h2 h3 hs hn hl1 hl2 hl3 hek hfew
  go_enter Tryd.func16, Tryd.ntmps16
  go_upto_region 1 with fail
  refine wp_name fun W hW => ?_
  have HX := Lib.hid (show BoxAt W w.heap.size [.bool true, .slice a1 es.length c1, .slice a2 ks.length c2, .slice a3 ki.length c3] by rw [hW]; exact BoxAt.new w [_, _, _, _] _)
  have HB := Lib.hid (show Below w.heap.size w W by rw [hW]; go_grown)
  clear hW
  obtain ⟨m0, m1, m2, m3⟩ := HX.out.four
  go_upto_region 5 with (go_at_call 39; (refine (nodeCheck_ok true es ks ki HN.out a1 a2 a3 c1 c2 c3 _ A (HS.out.below HB.out) (H1.out.below HB.out) (H2.out.below HB.out) (H3.out.below HB.out) HL1.out HL2.out HL3.out).mono ?_); (rintro e w1 ⟨rfl, hb1⟩); (have HB1 := Lib.hid (below_step HB.out hb1)); (have HX1 := Lib.hid (HX.out.below hb1)); (clear hb1))
  refine wp_name fun V hV => ?_
  have HBV := Lib.hid (show Below w.heap.size w V by rw [hV]; exact HB1.out.alloc HB1.out.size _)
  have HXV := Lib.hid (show BoxAt V w.heap.size [.bool true, .slice a1 es.length c1, .slice a2 ks.length c2, .slice a3 ki.length c3] by rw [hV]; exact HX1.out.alloc _)
  have HWV := Lib.hid (show WrAt V w1.heap.size [] by rw [hV]; exact ⟨none, 0, BoxAt.new w1 [.slice none 0 0, .nilIface] _, Own.nil _ _⟩)
  obtain ⟨g, hg⟩ : ∃ g, w1.heap.size = g := ⟨_, rfl⟩
  have hgw : w.heap.size < g := by rw [← hg]; exact HX1.out.lt
  rw [hg] at HWV ⊢
  clear hV hg m0 m1 m2 m3 HX HB HB1 HX1
  obtain ⟨m0, m1, m2, m3⟩ := HXV.out.four
  go_wp2_with (go_at_call 50; (refine (wrNum_is g [] (Fld.le 2 es.length) _ _ es.length 2 rfl rfl rfl _ HWV.out (by decide) (by omega) (by omega) (by simp)).mono ?_); (rintro e w2 ⟨rfl, hw2, hb2, -⟩); (have HW2 := Lib.hid hw2); (have HB2 := Lib.hid (HBV.out.trans (hb2.mono (Nat.le_of_lt hgw)))); (have HX2 := Lib.hid (HXV.out.belowB hb2 hgw)); (clear hw2 hb2 m0 m1 m2 m3); (obtain ⟨m0, m1, m2, m3⟩ := HX2.out.four))
  go_loopw [28] (fun i wr => ∃ k : Nat, k ≤ es.length ∧ i = .int .i64 k ∧ WrAt wr g (Fld.le 2 es.length ++ entsL es k) ∧ BoxAt wr w.heap.size [.bool true, .slice a1 es.length c1, .slice a2 ks.length c2, .slice a3 ki.length c3] ∧ Below w.heap.size w wr) (fun i _ => es.length - (intOf i).toNat)
  case atStart => exact ⟨0, by omega, rfl, by rw [entsL, List.append_nil]; exact HW2.out, HX2.out, HB2.out⟩
  case round =>
    obtain ⟨k, hk, rfl, hwr, hbx, hbr⟩ := hrel
    have HBX := Lib.hid hbx
    have HBR := Lib.hid hbr
    have HWR := Lib.hid hwr
    clear m0 m1 m2 m3 hwr hbx hbr
    obtain ⟨m0, m1, m2, m3⟩ := HBX.out.four
    by_cases hlt : k < es.length
    · obtain ⟨e, he⟩ := getElem?_some_of_lt hlt
      obtain ⟨b1, o1, rfl, e0, e1, e2, e3⟩ := ent_cells (H1.out.below HBR.out) he
      have hlt1 : (k : Int) < (es.length : Int) := by omega
      have hEL : entsL es (k + 1) = entsL es k ++ entL e := by rw [entsL, he]
      have hle : (Fld.le 2 es.length ++ entsL es k).length ≤ 7000000 := by
        rw [List.length_append, Fld.le_length, entsL_weight]
        have := entsW_le HFEW.out k
        omega
      have heb := entsK_at HEK.out hlt he
      have HEL := Lib.hid hEL
      clear he hEL
      obtain ⟨L0, hL0⟩ : ∃ L0, Fld.le 2 es.length ++ entsL es k = L0 := ⟨_, rfl⟩
      have HL0 := Lib.hid hL0
      rw [hL0] at HWR hle
      clear hL0
      go_upto_region 10 with fail
      refine wp_name fun U hU => ?_
      have HO := Lib.hid (show U.heap[wr.heap.size]? = some (.cells #[.string e.key, .string e.value, .int .i64 e.chain, .int .i64 e.size] 44 (0, 0)) by rw [hU]; exact heap_alloc_new wr _)
      have HBU := Lib.hid (show Below w.heap.size w U by rw [hU]; exact HBR.out.alloc HBR.out.size _)
      have HXU := Lib.hid (show BoxAt U w.heap.size [.bool true, .slice (some ⟨b1, o1, none⟩) es.length c1, .slice a2 ks.length c2, .slice a3 ki.length c3] by rw [hU]; exact HBX.out.alloc _)
      have HWU := Lib.hid (show WrAt U g L0 by rw [hU]; exact HWR.out.alloc _)
      obtain ⟨r, hr⟩ : ∃ r, wr.heap.size = r := ⟨_, rfl⟩
      have hgr : g < r := by rw [← hr]; exact HWR.out.lt
      have hrg : r ≠ g := Nat.ne_of_gt hgr
      rw [hr] at HO ⊢
      clear hU hr m0 m1 m2 m3 e0 e1 e2 e3
      obtain ⟨n0, n1, n2, n3⟩ := row4 HO.out
      by_cases hc : e.chain = 0
      · obtain ⟨-, z1, z2⟩ := ent_eq heb hc
        have HEE := Lib.hid (show entL e = txtL e.key ++ (Fld.le 1 0 ++ txtL e.value) by unfold entL; rw [if_pos hc])
        have hcb : (e.chain == 0) = true := by simpa using hc
        have t1 : (txtL e.key).length ≤ 40 := by rw [txtL_length]; omega
        have HC := Lib.hid hc
        clear hc heb
        go_wp2_with (first
          | (go_at_call 51; (refine (wrText_is g (L0 ++ txtL e.key ++ Fld.le 1 0) _ e.value rfl _ HW4.out (by omega) (by simp only [List.length_append, Fld.le_length]; omega)).mono ?_); (rintro r5 w5 ⟨rfl, hw5, hb5, -⟩); (have HW5 := Lib.hid hw5); (have HB5 := Lib.hid (HB4.out.trans (hb5.mono (Nat.le_of_lt hgw)))); (have HX5 := Lib.hid (HX4.out.belowB hb5 hgw)); (clear hw5 hb5))
          | (go_at_call 50; (refine (wrNum_is g (L0 ++ txtL e.key) _ _ _ 0 1 rfl rfl rfl _ HW3.out (by decide) (by decide) (by decide) (by simp only [List.length_append]; omega)).mono ?_); (rintro r4 w4 ⟨rfl, hw4, hb4, hk4⟩); (have HW4 := Lib.hid hw4); (have HB4 := Lib.hid (HB3.out.trans (hb4.mono (Nat.le_of_lt hgw)))); (have HX4 := Lib.hid (HX3.out.belowB hb4 hgw)); (have HO4 := Lib.hid (hk4 _ _ _ _ HO3.out hrg (by decide))); (clear hw4 hb4 hk4 n0 n1 n2 n3); (obtain ⟨n0, n1, n2, n3⟩ := row4 HO4.out))
          | (go_at_call 51; (refine (wrText_is g L0 _ e.key rfl _ HWU.out (by omega) (by omega)).mono ?_); (rintro r3 w3 ⟨rfl, hw3, hb3, hk3⟩); (have HW3 := Lib.hid hw3); (have HB3 := Lib.hid (HBU.out.trans (hb3.mono (Nat.le_of_lt hgw)))); (have HX3 := Lib.hid (HXU.out.belowB hb3 hgw)); (have HO3 := Lib.hid (hk3 _ _ _ _ HO.out hrg (by decide))); (clear hw3 hb3 hk3 n0 n1 n2 n3); (obtain ⟨n0, n1, n2, n3⟩ := row4 HO3.out)))
        go_roundw
        case rel => exact ⟨k + 1, by omega, by go_num, by rw [HEL.out, HEE.out, ← List.append_assoc, HL0.out]; simpa only [List.append_assoc] using HW5.out, HX5.out, HB5.out⟩
        case measure => simp [intOf]; omega
      · obtain ⟨z0, z1, z2, z3, z4⟩ := ent_eq2 heb hc
        have HEE := Lib.hid (show entL e = txtL e.key ++ (Fld.le 1 1 ++ (Fld.le 4 e.chain.toNat ++ Fld.le 4 e.size.toNat)) by unfold entL; rw [if_neg hc])
        have hch : e.chain = (e.chain.toNat : Int) := congrArg Nd.Ent.chain z0
        have hsz : e.size = (e.size.toNat : Int) := congrArg Nd.Ent.size z0
        have hcb : (e.chain == 0) = false := by simpa using hc
        have t1 : (txtL e.key).length ≤ 40 := by rw [txtL_length]; omega
        have HCH := Lib.hid hch
        have HSZ := Lib.hid hsz
        clear hc heb z0 hch hsz
        go_wp2_with (first
          | (go_at_call 50; (refine (wrNum_is g (L0 ++ txtL e.key ++ Fld.le 1 1 ++ Fld.le 4 e.chain.toNat) _ _ _ e.size.toNat 4 rfl HSZ.out rfl _ HW5.out (by decide) (show e.size.toNat < 4294967296 by omega) (by omega) (by simp only [List.length_append, Fld.le_length]; omega)).mono ?_); (rintro r6 w6 ⟨rfl, hw6, hb6, -⟩); (have HW6 := Lib.hid hw6); (have HB6 := Lib.hid (HB5.out.trans (hb6.mono (Nat.le_of_lt hgw)))); (have HX6 := Lib.hid (HX5.out.belowB hb6 hgw)); (clear hw6 hb6))
          | (go_at_call 50; (refine (wrNum_is g (L0 ++ txtL e.key ++ Fld.le 1 1) _ _ _ e.chain.toNat 4 rfl HCH.out rfl _ HW4.out (by decide) (show e.chain.toNat < 4294967296 by omega) (by omega) (by simp only [List.length_append, Fld.le_length]; omega)).mono ?_); (rintro r5 w5 ⟨rfl, hw5, hb5, hk5⟩); (have HW5 := Lib.hid hw5); (have HB5 := Lib.hid (HB4.out.trans (hb5.mono (Nat.le_of_lt hgw)))); (have HX5 := Lib.hid (HX4.out.belowB hb5 hgw)); (have HO5 := Lib.hid (hk5 _ _ _ _ HO4.out hrg (by decide))); (clear hw5 hb5 hk5 n0 n1 n2 n3); (obtain ⟨n0, n1, n2, n3⟩ := row4 HO5.out))
          | (go_at_call 50; (refine (wrNum_is g (L0 ++ txtL e.key) _ _ _ 1 1 rfl rfl rfl _ HW3.out (by decide) (by decide) (by decide) (by simp only [List.length_append]; omega)).mono ?_); (rintro r4 w4 ⟨rfl, hw4, hb4, hk4⟩); (have HW4 := Lib.hid hw4); (have HB4 := Lib.hid (HB3.out.trans (hb4.mono (Nat.le_of_lt hgw)))); (have HX4 := Lib.hid (HX3.out.belowB hb4 hgw)); (have HO4 := Lib.hid (hk4 _ _ _ _ HO3.out hrg (by decide))); (clear hw4 hb4 hk4 n0 n1 n2 n3); (obtain ⟨n0, n1, n2, n3⟩ := row4 HO4.out))
          | (go_at_call 51; (refine (wrText_is g L0 _ e.key rfl _ HWU.out (by omega) (by omega)).mono ?_); (rintro r3 w3 ⟨rfl, hw3, hb3, hk3⟩); (have HW3 := Lib.hid hw3); (have HB3 := Lib.hid (HBU.out.trans (hb3.mono (Nat.le_of_lt hgw)))); (have HX3 := Lib.hid (HXU.out.belowB hb3 hgw)); (have HO3 := Lib.hid (hk3 _ _ _ _ HO.out hrg (by decide))); (clear hw3 hb3 hk3 n0 n1 n2 n3); (obtain ⟨n0, n1, n2, n3⟩ := row4 HO3.out)))
        go_roundw
        case rel => exact ⟨k + 1, by omega, by go_num, by rw [HEL.out, HEE.out, ← List.append_assoc, HL0.out]; simpa only [List.append_assoc] using HW6.out, HX6.out, HB6.out⟩
        case measure => simp [intOf]; omega
    · have hkk : k = es.length := by omega
      subst hkk
      rw [← HNL.out] at HWR
      obtain ⟨a, c, hx9, ho9⟩ := HWR.out
      obtain ⟨q0, q1⟩ := hx9.two
      have HO9 := Lib.hid ho9
      clear hx9 ho9 HWR
      have p0 := Later.cell q0
      have p1 := Later.cell q1
      go_upto_region 26 with fail
      refine wp_region_later (by kernel_rfl) (by kernel_rfl) ?_
      repeat (first | go_big_quiet_step ((go_at_call 49; exact Calls.later_same (faultWrap_nil _ _))) | quiet_step (fail))
      refine wpQuiet_nil ?_
      intro xw
      have HXW := Lib.hid xw.below
      go_wp2_with fail
      go_ret2
      exact ⟨⟨_, _, rfl, (HO9.out.below HXW.out (Nat.le_refl _)).mono (by omega)⟩, below_step HBR.out HXW.out⟩
end Go.Proofs.YtlobelfnjabajaaDoor

/- nodes: Put of a right inner node; Put -/
namespace Go.Proofs.YtlobelfnjabajaaDoor
open Go.RowKit
set_option linter.unusedVariables false
set_option linter.unusedSimpArgs false

theorem int_cellK {w : World} {a : Option Addr} {n c : Nat} {l : List Int} (h : IntsAt w (.slice a n c) l) {k : Nat} {x : Int} (hx : l[k]? = some x) : ∃ b o, a = some ⟨b, o, none⟩ ∧ w.cell? ⟨b, o + k, none⟩ = some (.int .i64 x) := by
  obtain ⟨a', c', e, h1, h2, h3⟩ := h
  obtain ⟨rfl, rfl⟩ : a = a' ∧ c = c' := by injection e with e1 e2 e3; exact ⟨e1, e3⟩
  rcases h3 with rfl | ⟨b, o, rfl, hc⟩
  · simp at hx
  · exact ⟨b, o, rfl, hc k x hx⟩
set_option maxRecDepth 100000 in
set_option maxHeartbeats 4000000 in
theorem nodePut_inner {S : Nat → Prop} [Has S 1] (es : List Nd.Ent) (ks : List ByteArray) (ki : List Int) (hn : nodeB false es ks ki = true) (a1 a2 a3 : Option Addr) (c1 c2 c3 : Nat) (w : World) (A : Nat → Addr) (hs : SentsOn S w A) (h1 : RowAt eEnt w (.slice a1 es.length c1) es) (h2 : RowAt eStr w (.slice a2 ks.length c2) ks) (h3 : IntsAt w (.slice a3 ki.length c3) ki) (hl1 : es.length ≤ 1000000) (hl2 : ks.length ≤ 1000000) (hl3 : ki.length ≤ 1000000) :
    Calls Tryd.prog 16 #[.agg #[.bool false, .slice a1 es.length c1, .slice a2 ks.length c2, .slice a3 ki.length c3]] w fun e w' => (∃ a c, e = .returned (.tuple #[.slice a (nodeL false es ks ki).length c, .nilIface]) ∧ Own w' w.heap.size (.slice a (nodeL false es ks ki).length c) (nodeL false es ks ki)) ∧ Below w.heap.size w w' := by
  have hnb := hn
  unfold nodeB innerB at hnb
  simp at hnb
  obtain ⟨⟨⟨-, hk2, hkl, hk256⟩, hki, hks, -⟩, -⟩ := hnb
  obtain ⟨x0, hx0⟩ := getElem?_some_of_lt (show 0 < ki.length by omega)
  have hxb := kidB_bd (kidsK_at hki (by omega) hx0).1
  obtain ⟨n0, rfl⟩ : ∃ n : Nat, x0 = (n : Int) := ⟨x0.toNat, by omega⟩
  have hg0 : (ki.getD 0 0).toNat = n0 := by simp [hx0]
  have H1 := Lib.hid h1
  have H2 := Lib.hid h2
  have H3 := Lib.hid h3
  have HS := Lib.hid hs
  have HN := Lib.hid hn
  have HKI := Lib.hid hki
  have HKS := Lib.hid hks
  have HKL := Lib.hid hkl
  have HX0 := Lib.hid hx0
  have HL1 := Lib.hid hl1
  have HL2 := Lib.hid hl2
  have HL3 := Lib.hid hl3
  have HNL := Lib.hid (show nodeL false es ks ki = Fld.le 2 ki.length ++ (Fld.le 4 n0 ++ keysL ks ki ks.length) by rw [← hg0]; rfl)
  have hks255 : ks.length ≤ 255 := by omega
  clear h1 h2 h3 hs hn hl1 hl2 hl3 hki hks hkl hg0 hx0
  go_enter Tryd.func16, Tryd.ntmps16
  go_upto_region 1 with fail
  refine wp_name fun W hW => ?_
  have HX := Lib.hid (show BoxAt W w.heap.size [.bool false, .slice a1 es.length c1, .slice a2 ks.length c2, .slice a3 ki.length c3] by rw [hW]; exact BoxAt.new w [_, _, _, _] _)
  have HB := Lib.hid (show Below w.heap.size w W by rw [hW]; go_grown)
  clear hW
  obtain ⟨m0, m1, m2, m3⟩ := HX.out.four
  go_upto_region 5 with (go_at_call 39; (refine (nodeCheck_ok false es ks ki HN.out a1 a2 a3 c1 c2 c3 _ A (HS.out.below HB.out) (H1.out.below HB.out) (H2.out.below HB.out) (H3.out.below HB.out) HL1.out HL2.out HL3.out).mono ?_); (rintro e w1 ⟨rfl, hb1⟩); (have HB1 := Lib.hid (below_step HB.out hb1)); (have HX1 := Lib.hid (HX.out.below hb1)); (clear hb1))
  refine wp_name fun V hV => ?_
  have HBV := Lib.hid (show Below w.heap.size w V by rw [hV]; exact HB1.out.alloc HB1.out.size _)
  have HXV := Lib.hid (show BoxAt V w.heap.size [.bool false, .slice a1 es.length c1, .slice a2 ks.length c2, .slice a3 ki.length c3] by rw [hV]; exact HX1.out.alloc _)
  have HWV := Lib.hid (show WrAt V w1.heap.size [] by rw [hV]; exact ⟨none, 0, BoxAt.new w1 [.slice none 0 0, .nilIface] _, Own.nil _ _⟩)
  obtain ⟨g, hg⟩ : ∃ g, w1.heap.size = g := ⟨_, rfl⟩
  have hgw : w.heap.size < g := by rw [← hg]; exact HX1.out.lt
  rw [hg] at HWV ⊢
  clear hV hg m0 m1 m2 m3 HX HB HB1 HX1
  obtain ⟨m0, m1, m2, m3⟩ := HXV.out.four
  obtain ⟨b3, o3, rfl, z0⟩ := int_cellK (H3.out.below HBV.out) HX0.out
  have hk0 : (0 : Int) < (ki.length : Int) := by omega
  go_upto_region 19 with (go_at_call 50; (refine (wrNum_is g [] (Fld.le 2 ki.length) _ _ ki.length 2 rfl rfl rfl _ HWV.out (by decide) (show ki.length < 65536 by omega) (by omega) (by simp)).mono ?_); (rintro e w2 ⟨rfl, hw2, hb2, -⟩); (have HW2 := Lib.hid hw2); (have HB2 := Lib.hid (HBV.out.trans (hb2.mono (Nat.le_of_lt hgw)))); (have HX2 := Lib.hid (HXV.out.belowB hb2 hgw)); (clear hw2 hb2))
  clear m0 m1 m2 m3 z0
  obtain ⟨m0, m1, m2, m3⟩ := HX2.out.four
  have z0 : w2.cell? ⟨b3, o3, none⟩ = some (.int .i64 (n0 : Int)) := by
    obtain ⟨b, o, e, z⟩ := int_cellK (H3.out.below HB2.out) HX0.out
    simp only [Option.some.injEq, Addr.mk.injEq, and_true] at e
    obtain ⟨rfl, rfl⟩ := e
    exact z
  go_upto_region 20 with (go_at_call 50; (refine (wrNum_is g (Fld.le 2 ki.length) (Fld.le 2 ki.length ++ Fld.le 4 n0) _ _ n0 4 rfl rfl rfl _ HW2.out (by decide) (show n0 < 4294967296 by omega) (by omega) (by rw [Fld.le_length]; omega)).mono ?_); (rintro e w3 ⟨rfl, hw3, hb3, -⟩); (have HW3 := Lib.hid hw3); (have HB3 := Lib.hid (HB2.out.trans (hb3.mono (Nat.le_of_lt hgw)))); (have HX3 := Lib.hid (HX2.out.belowB hb3 hgw)); (clear hw3 hb3))
  clear m0 m1 m2 m3 z0
  obtain ⟨m0, m1, m2, m3⟩ := HX3.out.four
  go_wp2_with fail
  go_loopw [70] (fun i wr => ∃ k : Nat, k ≤ ks.length ∧ i = .int .i64 k ∧ WrAt wr g (Fld.le 2 ki.length ++ Fld.le 4 n0 ++ keysL ks ki k) ∧ BoxAt wr w.heap.size [.bool false, .slice a1 es.length c1, .slice a2 ks.length c2, .slice (some ⟨b3, o3, none⟩) ki.length c3] ∧ Below w.heap.size w wr) (fun i _ => ks.length - (intOf i).toNat)
  case atStart => exact ⟨0, by omega, rfl, by rw [keysL, List.append_nil]; exact HW3.out, HX3.out, HB3.out⟩
  case round =>
    obtain ⟨k, hk, rfl, hwr, hbx, hbr⟩ := hrel
    have HBX := Lib.hid hbx
    have HBR := Lib.hid hbr
    have HWR := Lib.hid hwr
    clear m0 m1 m2 m3 hwr hbx hbr
    obtain ⟨m0, m1, m2, m3⟩ := HBX.out.four
    by_cases hlt : k < ks.length
    · obtain ⟨s, hs⟩ := getElem?_some_of_lt hlt
      obtain ⟨x, hx⟩ := getElem?_some_of_lt (show k + 1 < ki.length by have := HKL.out; omega)
      obtain ⟨b2, o2, rfl, e0⟩ := str_cell (H2.out.below HBR.out) hs
      have hkb := keyB_bd (keysK_at HKS.out hlt hs)
      have hcb := kidB_bd (kidsK_at HKI.out (by have := HKL.out; omega) hx).1
      obtain ⟨n, rfl⟩ : ∃ n : Nat, x = (n : Int) := ⟨x.toNat, by omega⟩
      have hlt1 : (k : Int) < (ks.length : Int) := by omega
      have hlt2 : (k : Int) + 1 < (ki.length : Int) := by have := HKL.out; omega
      have hEL : keysL ks ki (k + 1) = keysL ks ki k ++ (txtL s ++ Fld.le 4 n) := by rw [keysL, hs]; simp [hx]
      have hle : (Fld.le 2 ki.length ++ Fld.le 4 n0 ++ keysL ks ki k).length ≤ 7000000 := by
        rw [List.length_append, List.length_append, Fld.le_length, Fld.le_length, keysL_weight]
        have := keysW_le (l := ks) (fun j e he => (keyB_bd (keysK_at HKS.out (List.getElem?_eq_some_iff.1 he).1 he)).2) k
        omega
      have HEL := Lib.hid hEL
      have HXN := Lib.hid hx
      clear hs hEL hx
      obtain ⟨L0, hL0⟩ : ∃ L0, Fld.le 2 ki.length ++ Fld.le 4 n0 ++ keysL ks ki k = L0 := ⟨_, rfl⟩
      have HL0 := Lib.hid hL0
      rw [hL0] at HWR hle
      have t1 : (txtL s).length ≤ 40 := by rw [txtL_length]; omega
      clear hL0
      go_upto_region 24 with (go_at_call 51; (refine (wrText_is g L0 _ s rfl _ HWR.out (by omega) (by omega)).mono ?_); (rintro r4 w4 ⟨rfl, hw4, hb4, -⟩); (have HW4 := Lib.hid hw4); (have HB4 := Lib.hid (HBR.out.trans (hb4.mono (Nat.le_of_lt hgw)))); (have HX4 := Lib.hid (HBX.out.belowB hb4 hgw)); (clear hw4 hb4))
      clear m0 m1 m2 m3
      obtain ⟨m0, m1, m2, m3⟩ := HX4.out.four
      have z1 : w4.cell? ⟨b3, o3 + (k + 1), none⟩ = some (.int .i64 (n : Int)) := by
        obtain ⟨b, o, e, z⟩ := int_cellK (H3.out.below HB4.out) HXN.out
        simp only [Option.some.injEq, Addr.mk.injEq, and_true] at e
        obtain ⟨rfl, rfl⟩ := e
        exact z
      go_wp2_with (go_at_call 50; (refine (wrNum_is g (L0 ++ txtL s) _ _ _ n 4 rfl rfl rfl _ HW4.out (by decide) (show n < 4294967296 by omega) (by omega) (by simp only [List.length_append]; omega)).mono ?_); (rintro r5 w5 ⟨rfl, hw5, hb5, -⟩); (have HW5 := Lib.hid hw5); (have HB5 := Lib.hid (HB4.out.trans (hb5.mono (Nat.le_of_lt hgw)))); (have HX5 := Lib.hid (HX4.out.belowB hb5 hgw)); (clear hw5 hb5))
      go_roundw
      case rel => exact ⟨k + 1, by omega, by go_num, by rw [HEL.out, ← List.append_assoc, HL0.out]; simpa only [List.append_assoc] using HW5.out, HX5.out, HB5.out⟩
      case measure => simp [intOf]; omega
    · have hkk : k = ks.length := by omega
      subst hkk
      rw [List.append_assoc, ← HNL.out] at HWR
      obtain ⟨a, c, hx9, ho9⟩ := HWR.out
      obtain ⟨q0, q1⟩ := hx9.two
      have HO9 := Lib.hid ho9
      clear hx9 ho9 HWR
      have p0 := Later.cell q0
      have p1 := Later.cell q1
      go_upto_region 26 with fail
      refine wp_region_later (by kernel_rfl) (by kernel_rfl) ?_
      repeat (first | go_big_quiet_step ((go_at_call 49; exact Calls.later_same (faultWrap_nil _ _))) | quiet_step (fail))
      refine wpQuiet_nil ?_
      intro xw
      have HXW := Lib.hid xw.below
      go_wp2_with fail
      go_ret2
      exact ⟨⟨_, _, rfl, (HO9.out.below HXW.out (Nat.le_refl _)).mono (by omega)⟩, below_step HBR.out HXW.out⟩

/-- the bytes of a node, and the code -/
def nodeT (lf : Bool) (es : List Nd.Ent) (ks : List ByteArray) (ki : List Int) : List UInt8 × Nat := if nodeB lf es ks ki = true then (nodeL lf es ks ki, 0) else ([], 1)
theorem nodePut_any {S : Nat → Prop} [Has S 1] (lf : Bool) (es : List Nd.Ent) (ks : List ByteArray) (ki : List Int) (a1 a2 a3 : Option Addr) (c1 c2 c3 : Nat) (w : World) (A : Nat → Addr) (hs : SentsOn S w A) (h1 : RowAt eEnt w (.slice a1 es.length c1) es) (h2 : RowAt eStr w (.slice a2 ks.length c2) ks) (h3 : IntsAt w (.slice a3 ki.length c3) ki) (hl1 : es.length ≤ 1000000) (hl2 : ks.length ≤ 1000000) (hl3 : ki.length ≤ 1000000) :
    Calls Tryd.prog 16 #[.agg #[.bool lf, .slice a1 es.length c1, .slice a2 ks.length c2, .slice a3 ki.length c3]] w fun e w' => BytesErr w A (nodeT lf es ks ki).1 (nodeT lf es ks ki).2 e w' ∧ Below w.heap.size w w' := by
  unfold nodeT
  split
  · rename_i hn
    have ok : Calls Tryd.prog 16 #[.agg #[.bool lf, .slice a1 es.length c1, .slice a2 ks.length c2, .slice a3 ki.length c3]] w fun e w' => (∃ a c, e = .returned (.tuple #[.slice a (nodeL lf es ks ki).length c, .nilIface]) ∧ Own w' w.heap.size (.slice a (nodeL lf es ks ki).length c) (nodeL lf es ks ki)) ∧ Below w.heap.size w w' := by
      cases lf with
      | true => exact nodePut_leaf es ks ki hn a1 a2 a3 c1 c2 c3 w A hs h1 h2 h3 hl1 hl2 hl3
      | false => exact nodePut_inner es ks ki hn a1 a2 a3 c1 c2 c3 w A hs h1 h2 h3 hl1 hl2 hl3
    exact ok.mono fun e w' ⟨⟨a, c, he, ho⟩, hb⟩ => ⟨⟨a, c, _, [], he, ho, ErrIs.nil _ _ _⟩, hb⟩
  · rename_i hn
    exact (nodePut_bad lf es ks ki (by simpa using hn) a1 a2 a3 c1 c2 c3 w A hs h1 h2 h3 hl1 hl2 hl3).mono fun e w' ⟨⟨t, x, he, hE⟩, hb⟩ => ⟨⟨none, 0, _, _, he, nil_own w w', hE⟩, hb⟩
end Go.Proofs.YtlobelfnjabajaaDoor

/- nodes: a reader's num -/
namespace Go.Proofs.YtlobelfnjabajaaDoor
open Go.RowKit
set_option linter.unusedVariables false
set_option linter.unusedSimpArgs false

theorem take_good (v : Value) (l : List UInt8) (p x : Nat) (P X : Int) (n : Nat) (hn : Pg.num l p x = n) (hP : P = (p : Int)) (hX : X = (x : Int)) (w : World) (hb : BytesAt w v l) (hx : Fld.right (x : Int) = true) (hat : p + x ≤ l.length) :
    Calls Tryd.prog 89 #[v, .int .i64 P, .int .i64 X] w fun e w' => e = .returned (.tuple #[.int .u64 (n : Int), .nilIface]) ∧ w = w' := by
  subst hP hX hn
  have := take_num v l (p : Int) (x : Int) w hb hx (by omega) (by omega)
  simpa [numI] using this
theorem take_short (v : Value) (l : List UInt8) (p x : Nat) (P X : Int) (hP : P = (p : Int)) (hX : X = (x : Int)) (w : World) (A : Nat → Addr) {S : Nat → Prop} [Has S 1] [Has S 2] (hs : SentsOn S w A) (hb : BytesAt w v l) (hx : Fld.right (x : Int) = true) (hat : l.length < p + x) :
    Calls Tryd.prog 89 #[v, .int .i64 P, .int .i64 X] w fun e w' => (∃ t y, e = .returned (.tuple #[.int .u64 0, .iface t y])) ∧ Below w.heap.size w w' := by
  subst hP hX
  refine (take_any v l (p : Int) (x : Int) w A hs hb).mono ?_
  rintro e w' ⟨⟨ev, lp, rfl, hE⟩, hb'⟩
  have hk : (takeS l (p : Int) (x : Int)).1 = 0 ∧ (takeS l (p : Int) (x : Int)).2 ≠ 0 := by
    unfold takeS
    split
    · exact ⟨rfl, by simp⟩
    · rw [if_pos (by simp; omega)]; exact ⟨rfl, by simp⟩
  obtain ⟨t, y, rfl⟩ := hE.iface hk.2
  rw [hk.1]
  exact ⟨⟨t, y, rfl⟩, hb'⟩
theorem rd_store {w : World} {r p x : Nat} {X : Int} {v : Value} {b b' : Bool} (h : BoxAt w r [v, .int .i64 (p : Int), .bool b]) (hX : X = (x : Int)) :
    BoxAt ((w.setCell ⟨r, 2, none⟩ (.bool b')).setCell ⟨r, 1, none⟩ (.int .i64 ((p : Int) + X))).drew r [v, .int .i64 ((p + x : Nat) : Int), .bool b'] := by
  subst hX
  have h1 := (h.put 2 (.bool b')).put 1 (.int .i64 ((p : Int) + (x : Int)))
  have h2 := h1.below (Below.refl _ _).drew
  simpa [List.set] using h2
theorem rd_grown (w : World) (r : Nat) (u u' : Value) : w.grownBy ((w.setCell ⟨r, 2, none⟩ u).setCell ⟨r, 1, none⟩ u').drew (some r) :=
  ⟨rfl, rfl, rfl, by simp, fun i hi hne => by
    have hne' : i ≠ r := fun e => hne (by rw [e])
    show ((w.setCell ⟨r, 2, none⟩ u).setCell ⟨r, 1, none⟩ u').heap[i]? = _
    rw [Below.heap_setCell _ _ _ _ hne', Below.heap_setCell _ _ _ _ hne']⟩
theorem rd_store1 {w : World} {r p x : Nat} {X : Int} {v : Value} {b b' : Bool} (h : BoxAt w r [v, .int .i64 (p : Int), .bool b]) (hX : X = (x : Int)) :
    BoxAt ((w.setCell ⟨r, 2, none⟩ (.bool b')).setCell ⟨r, 1, none⟩ (.int .i64 ((p : Int) + X))) r [v, .int .i64 ((p + x : Nat) : Int), .bool b'] := by
  subst hX
  have h1 := (h.put 2 (.bool b')).put 1 (.int .i64 ((p : Int) + (x : Int)))
  simpa [List.set] using h1
theorem rd_grown1 {w w1 : World} (hb : Below w.drew.heap.size w.drew w1) (r : Nat) (u u' : Value) : w.grownBy ((w1.setCell ⟨r, 2, none⟩ u).setCell ⟨r, 1, none⟩ u') (some r) :=
  grown_trans (w1 := w1) ⟨hb.os, hb.tape, hb.output, hb.size, fun i hi _ => hb.block i hi⟩ (grownBy_set (grownBy_set (World.grownBy.refl w1 (some r)) 2 u) 1 u')
set_option maxRecDepth 100000 in
set_option maxHeartbeats 1000000 in
theorem rdNum_good (r p x n : Nat) (X : Int) (bad : Bool) (v : Value) (l : List UInt8) (hn : Pg.num l p x = n) (hX : X = (x : Int)) (w : World) (hb : BytesAt w v l) (hbx : BoxAt w r [v, .int .i64 (p : Int), .bool bad]) (hx : Fld.right (x : Int) = true) (hx4 : x ≤ 4) (hat : p + x ≤ l.length) (hp : p ≤ 100000000) :
    Calls Tryd.prog 52 #[.pointer (some ⟨r, 0, none⟩), .int .i64 X] w fun e w' => e = .returned (.int .i64 (n : Int)) ∧ BoxAt w' r [v, .int .i64 ((p + x : Nat) : Int), .bool bad] ∧ w.grownBy w' (some r) := by
  have hnl : n < 4294967296 := by
    have := Pg.num_lt l p x
    rw [hn] at this
    have h2 : 256 ^ x ≤ 256 ^ 4 := Nat.pow_le_pow_right (by decide) hx4
    have h3 : (256 : Nat) ^ 4 = 4294967296 := rfl
    omega
  have HN := Lib.hid hn
  have HXX := Lib.hid hX
  have HB := Lib.hid hb
  have HX := Lib.hid hbx
  have HR := Lib.hid hx
  have hxl : X ≤ 4 ∧ 0 ≤ X := by omega
  obtain ⟨m0, m1, m2⟩ := hbx.three
  have f1 := hbx.free 1 _ rfl
  have f2 := hbx.free 2 _ rfl
  clear hn hX hb hbx hx
  go_enter Tryd.func52, Tryd.ntmps52
  go_wp2_with fail
  go_region_held3 (fun w' => w'.cell? ⟨r, 0, none⟩ = some v ∧ w'.cell? ⟨r, 1, none⟩ = some (.int .i64 (p : Int))) (go_keep) ((go_at_call 89; refine (take_good v l p x _ _ n HN.out rfl HXX.out _ (HB.out.below (Below.refl _ _).drew) HR.out hat).mono ?_; rintro e w1 ⟨rfl, rfl⟩))
  have f1' : w.drew.frozen? ⟨r, 1, none⟩ = false := f1
  have f2' : w.drew.frozen? ⟨r, 2, none⟩ = false := f2
  cases bad with
  | false =>
    go_wp2_with fail
    go_ret
    exact ⟨rfl, rd_store HX.out HXX.out, rd_grown _ _ _ _⟩
  | true =>
    go_wp2_with fail
    go_ret
    exact ⟨rfl, rd_store HX.out HXX.out, rd_grown _ _ _ _⟩
set_option maxRecDepth 100000 in
set_option maxHeartbeats 1000000 in
theorem rdNum_bad (r p x : Nat) (X : Int) (bad : Bool) (v : Value) (l : List UInt8) (hX : X = (x : Int)) (w : World) (A : Nat → Addr) {S : Nat → Prop} [Has S 1] [Has S 2] (hs : SentsOn S w A) (hb : BytesAt w v l) (hbx : BoxAt w r [v, .int .i64 (p : Int), .bool bad]) (hx : Fld.right (x : Int) = true) (hx4 : x ≤ 4) (hat : l.length < p + x) (hp : p ≤ 100000000) :
    Calls Tryd.prog 52 #[.pointer (some ⟨r, 0, none⟩), .int .i64 X] w fun e w' => e = .returned (.int .i64 0) ∧ BoxAt w' r [v, .int .i64 ((p + x : Nat) : Int), .bool true] ∧ w.grownBy w' (some r) := by
  have HXX := Lib.hid hX
  have HB := Lib.hid hb
  have HS := Lib.hid hs
  have HX := Lib.hid hbx
  have HR := Lib.hid hx
  have hxl : X ≤ 4 ∧ 0 ≤ X := by omega
  obtain ⟨m0, m1, m2⟩ := hbx.three
  clear hX hb hbx hx hs
  go_enter Tryd.func52, Tryd.ntmps52
  go_wp2_with fail
  go_region_held3 (fun w' => w'.cell? ⟨r, 0, none⟩ = some v ∧ w'.cell? ⟨r, 1, none⟩ = some (.int .i64 (p : Int))) (go_keep) ((go_at_call 89; refine (take_short v l p x _ _ rfl HXX.out _ A (HS.out.below (Below.refl _ _).drew) (HB.out.below (Below.refl _ _).drew) HR.out hat).mono ?_; rintro e w1 ⟨⟨t, y, rfl⟩, hb1⟩; have HX1 := Lib.hid ((HX.out.below (Below.refl _ _).drew).below hb1); have HB1 := Lib.hid hb1; obtain ⟨n0, n1, n2⟩ := HX1.out.three; have k1 := HX1.out.free 1 _ rfl; have k2 := HX1.out.free 2 _ rfl; clear hb1))
  cases bad with
  | false =>
    go_wp2_with fail
    go_ret
    exact ⟨rfl, rd_store1 HX1.out HXX.out, rd_grown1 HB1.out _ _ _⟩
  | true =>
    go_wp2_with fail
    go_ret
    exact ⟨rfl, rd_store1 HX1.out HXX.out, rd_grown1 HB1.out _ _ _⟩
theorem rdNum_is (r x : Nat) (X : Int) (v : Value) (l : List UInt8) (s s' : Rd) (n : Nat) (hn : numR l x s = (n, s')) (hX : X = (x : Int)) (w : World) (A : Nat → Addr) {S : Nat → Prop} [Has S 1] [Has S 2] (hs : SentsOn S w A) (hb : BytesAt w v l) (hbx : BoxAt w r [v, .int .i64 (s.pos : Int), .bool s.bad]) (hx : Fld.right (x : Int) = true) (hx4 : x ≤ 4) (hp : s.pos ≤ 100000000) :
    Calls Tryd.prog 52 #[.pointer (some ⟨r, 0, none⟩), .int .i64 X] w fun e w' => e = .returned (.int .i64 (n : Int)) ∧ BoxAt w' r [v, .int .i64 (s'.pos : Int), .bool s'.bad] ∧ w.grownBy w' (some r) := by
  unfold numR at hn
  split at hn
  · simp only [Prod.mk.injEq] at hn
    obtain ⟨h1, rfl⟩ := hn
    exact rdNum_good r s.pos x n X s.bad v l h1 hX w hb hbx hx hx4 (by assumption) hp
  · simp only [Prod.mk.injEq] at hn
    obtain ⟨rfl, rfl⟩ := hn
    exact rdNum_bad r s.pos x X s.bad v l hX w A hs hb hbx hx hx4 (by omega) hp
end Go.Proofs.YtlobelfnjabajaaDoor

/- nodes: a reader's text -/
namespace Go.Proofs.YtlobelfnjabajaaDoor
open Go.RowKit
set_option linter.unusedVariables false
set_option linter.unusedSimpArgs false

theorem bytesAt_on {w w' : World} {v : Value} {l : List UInt8} (h : BytesAt w v l) (hs : ∀ k, v.ownBlock = some k → w'.heap[k]? = w.heap[k]?) : BytesAt w' v l := by
  obtain ⟨a, c, rfl, h1, h2, h3⟩ := h
  refine ⟨a, c, rfl, h1, h2, h3.imp id ?_⟩
  rintro ⟨b, o, rfl, hc⟩
  refine ⟨b, o, rfl, fun i x hx => ?_⟩
  have h4 := hc i x hx
  have h5 := hs b rfl
  simp only [World.cell?, h5] at h4 ⊢
  exact h4
set_option maxRecDepth 100000 in
set_option maxHeartbeats 2000000 in
theorem rdText_short (r p n : Nat) (bad : Bool) (a : Option Addr) (c : Nat) (l : List UInt8) (s : Rd) (hn : numR l 1 s = (n, ⟨p, bad⟩)) (hc : bad = true ∨ l.length < p + n) (w : World) (A : Nat → Addr) {S : Nat → Prop} [Has S 1] [Has S 2] (hs : SentsOn S w A) (hb : BytesAt w (.slice a l.length c) l) (hbx : BoxAt w r [.slice a l.length c, .int .i64 (s.pos : Int), .bool s.bad]) (hp : s.pos ≤ 90000000) (hl : l.length ≤ 90000000) :
    Calls Tryd.prog 53 #[.pointer (some ⟨r, 0, none⟩)] w fun e w' => e = .returned (.string ⟨#[]⟩) ∧ BoxAt w' r [.slice a l.length c, .int .i64 (p : Int), .bool true] ∧ w.grownBy w' (some r) := by
  have hp2 : p = s.pos + 1 := by have := numR_pos l 1 s; rw [hn] at this; exact this
  have hn6 : n < 256 := by have := numR_lt l 1 s; rw [hn] at this; exact this
  have HN := Lib.hid hn
  have HB := Lib.hid hb
  have HS := Lib.hid hs
  have HX := Lib.hid hbx
  have hpb : p ≤ 90000001 := by omega
  have hlb : (l.length : Int) ≤ 90000000 := by omega
  clear hn hb hbx hs hp2
  go_enter Tryd.func53, Tryd.ntmps53
  go_upto_region 2 with (go_at_call 52; (refine (rdNum_is r 1 _ _ l s _ n HN.out rfl _ A HS.out HB.out HX.out (by decide) (by decide) (by omega)).mono ?_); (rintro e w1 ⟨rfl, hx1, hg1⟩); (have HX1 := Lib.hid hx1); (have HG1 := Lib.hid hg1); (clear hx1 hg1))
  obtain ⟨m0, m1, m2⟩ := HX1.out.three
  have p0 := Later.cell m0
  have p1 := Later.cell m1
  have p2 := Later.cell m2
  cases bad with
  | true =>
    refine wp_region_later (by kernel_rfl) (by kernel_rfl) ?_
    repeat (first | go_big_quiet_step (fail) | quiet_step (fail))
    refine wpQuiet_nil ?_
    intro xw
    have HXW := Lib.hid xw.below
    have HX2 := Lib.hid (HX1.out.below HXW.out)
    have f2 := HX2.out.free 2 _ rfl
    go_wp2_with fail
    go_ret
    exact ⟨rfl, by simpa [List.set] using HX2.out.put 2 (.bool true), grownBy_set (grown_trans HG1.out (grown_of_below HXW.out (Nat.le_refl _) _)) 2 _⟩
  | false =>
    have hlt : l.length < p + n := by simpa using hc
    have hd : (l.length : Int) - (p : Int) < (n : Int) := by omega
    clear hc hlt
    refine wp_region_later (by kernel_rfl) (by kernel_rfl) ?_
    repeat (first | go_big_quiet_step (fail) | quiet_step (fail))
    refine wpQuiet_nil ?_
    intro xw
    have HXW := Lib.hid xw.below
    have HX2 := Lib.hid (HX1.out.below HXW.out)
    have f2 := HX2.out.free 2 _ rfl
    go_wp2_with fail
    go_ret
    exact ⟨rfl, by simpa [List.set] using HX2.out.put 2 (.bool true), grownBy_set (grown_trans HG1.out (grown_of_below HXW.out (Nat.le_refl _) _)) 2 _⟩
set_option maxRecDepth 100000 in
set_option maxHeartbeats 2000000 in
theorem rdText_good (r p n : Nat) (a : Option Addr) (c : Nat) (l : List UInt8) (s : Rd) (hn : numR l 1 s = (n, ⟨p, false⟩)) (hc : p + n ≤ l.length) (w : World) (A : Nat → Addr) {S : Nat → Prop} [Has S 1] [Has S 2] (hs : SentsOn S w A) (hb : BytesAt w (.slice a l.length c) l) (hrl : ∀ k, (Value.slice a l.length c).ownBlock = some k → k ≠ r) (hbx : BoxAt w r [.slice a l.length c, .int .i64 (s.pos : Int), .bool s.bad]) (hp : s.pos ≤ 90000000) (hl : l.length ≤ 90000000) :
    Calls Tryd.prog 53 #[.pointer (some ⟨r, 0, none⟩)] w fun e w' => e = .returned (.string (strOf l p n)) ∧ BoxAt w' r [.slice a l.length c, .int .i64 ((p + n : Nat) : Int), .bool false] ∧ w.grownBy w' (some r) := by
  have hp2 : p = s.pos + 1 := by have := numR_pos l 1 s; rw [hn] at this; exact this
  have hn6 : n < 256 := by have := numR_lt l 1 s; rw [hn] at this; exact this
  have HN := Lib.hid hn
  have HB := Lib.hid hb
  have HS := Lib.hid hs
  have HX := Lib.hid hbx
  have HRL := Lib.hid hrl
  have hpb : p ≤ 90000001 := by omega
  have hp1 : 1 ≤ p := by omega
  have hlb : (l.length : Int) ≤ 90000000 := by omega
  have hab : ∃ b o, a = some ⟨b, o, none⟩ := by
    obtain ⟨a', c', e, q1, q2, q3⟩ := hb
    obtain ⟨rfl, rfl⟩ : a = a' ∧ c = c' := by injection e with e1 e2 e3; exact ⟨e1, e3⟩
    rcases q3 with rfl | ⟨b, o, e, _⟩
    · simp at hc; omega
    · exact ⟨b, o, e⟩
  obtain ⟨b, o, rfl⟩ := hab
  have hlc : l.length ≤ c ∧ c ≤ 9223372036854775807 := by
    obtain ⟨a', c', e, q1, q2, q3⟩ := hb
    obtain ⟨-, rfl⟩ : _ ∧ c = c' := by injection e with e1 e2 e3; exact ⟨e1, e3⟩
    unfold maxLen at q2
    exact ⟨q1, q2⟩
  clear hn hb hbx hs hp2 hrl
  go_enter Tryd.func53, Tryd.ntmps53
  go_upto_region 2 with (go_at_call 52; (refine (rdNum_is r 1 _ _ l s _ n HN.out rfl _ A HS.out HB.out HX.out (by decide) (by decide) (by omega)).mono ?_); (rintro e w1 ⟨rfl, hx1, hg1⟩); (have HX1 := Lib.hid hx1); (have HG1 := Lib.hid hg1); (clear hx1 hg1))
  obtain ⟨m0, m1, m2⟩ := HX1.out.three
  have p0 := Later.cell m0
  have p1 := Later.cell m1
  have p2 := Later.cell m2
  have hd : (n : Int) ≤ (l.length : Int) - (p : Int) := by omega
  refine wp_region_later (by kernel_rfl) (by kernel_rfl) ?_
  repeat (first | go_big_quiet_step (fail) | quiet_step (fail))
  refine wpQuiet_nil ?_
  intro xw
  have HXW := Lib.hid xw.below
  have HX2 := Lib.hid (HX1.out.below HXW.out)
  have f1 := HX2.out.free 1 _ rfl
  have n1 := p1 xw
  go_upto_region 6 with fail
  refine wp_name fun V hV => ?_
  have HXV := Lib.hid (show BoxAt V r [.slice (some ⟨b, o, none⟩) l.length c, .int .i64 ((p + n : Nat) : Int), .bool false] by rw [hV]; simpa [List.set] using HX2.out.put 1 (.int .i64 ((p : Int) + (n : Int))))
  have HGV := Lib.hid (show w.grownBy V (some r) by rw [hV]; exact grownBy_set (grown_trans HG1.out (grown_of_below HXW.out (Nat.le_refl _) _)) 1 _)
  have HBV := Lib.hid (show BytesAt V (.slice (some ⟨b, o, none⟩) l.length c) l from bytesAt_on HB.out fun k hk => HGV.out.block k (by
    obtain ⟨a', c', e, q1, q2, q3⟩ := HB.out
    rcases q3 with e0 | ⟨b', o', e', hc'⟩
    · rw [e0] at hc; simp at hc; exact absurd hc (by omega)
    · simp only [Value.slice.injEq] at e
      obtain ⟨e1, -, -⟩ := e
      rw [← e1] at e'
      simp only [Option.some.injEq, Addr.mk.injEq, and_true] at e'
      obtain ⟨rfl, rfl⟩ := e'
      simp only [Value.ownBlock, Option.some.injEq] at hk
      subst hk
      obtain ⟨x, hx⟩ := getElem?_some_of_lt (show 0 < l.length by omega)
      exact World.block_lt_of_cell? w _ (hc' 0 x hx)) (fun e => HRL.out k hk (by simpa using e)))
  clear hV m0 m1 m2 p0 p1 p2 f1 n1 hd HXW HX2 HX1 HG1 xw
  obtain ⟨m0, m1, m2⟩ := HXV.out.three
  have p0 := Later.cell m0
  have p1 := Later.cell m1
  have p2 := Later.cell m2
  obtain ⟨hlc1, hlc2⟩ := hlc
  have hpn : p + n ≤ c := by omega
  by_cases hcp : c = p
  · subst hcp
    obtain rfl : n = 0 := by omega
    have hcv : ∀ x : Later V, (convert 27 9 (.slice (some ⟨b, o, none⟩) 0 0)).run Tryd.prog x.world = .ok (.string ⟨[].toArray⟩) x.world := fun x => string_of (l := []) ⟨_, 0, rfl, Nat.le_refl _, Nat.zero_le _, .inl rfl⟩
    refine wp_region_later (by kernel_rfl) (by kernel_rfl) ?_
    repeat (first | go_big_quiet_step (fail) | quiet_step (fail))
    refine wpQuiet_nil ?_
    intro xw
    have HXW := Lib.hid xw.below
    go_wp2_with fail
    go_ret
    exact ⟨by rw [show strOf l c 0 = ⟨#[]⟩ by unfold strOf; simp]; rfl, HXV.out.below HXW.out, grown_trans HGV.out (grown_of_below HXW.out (Nat.le_refl _) _)⟩
  · have hcv : ∀ x : Later V, (convert 27 9 (.slice (some ⟨b, o + p, none⟩) n (c - p))).run Tryd.prog x.world = .ok (.string ⟨((l.drop p).take n).toArray⟩) x.world := fun x => string_of ((HBV.out.below x.below).cut p n (by omega))
    refine wp_region_later (by kernel_rfl) (by kernel_rfl) ?_
    repeat (first | go_big_quiet_step (fail) | quiet_step (fail))
    refine wpQuiet_nil ?_
    intro xw
    have HXW := Lib.hid xw.below
    go_wp2_with fail
    go_ret
    exact ⟨rfl, HXV.out.below HXW.out, grown_trans HGV.out (grown_of_below HXW.out (Nat.le_refl _) _)⟩
theorem rdText_is (r : Nat) (a : Option Addr) (c : Nat) (l : List UInt8) (s s' : Rd) (t : ByteArray) (ht : textR l s = (t, s')) (w : World) (A : Nat → Addr) {S : Nat → Prop} [Has S 1] [Has S 2] (hs : SentsOn S w A) (hb : BytesAt w (.slice a l.length c) l) (hrl : 0 < l.length → ∀ k, (Value.slice a l.length c).ownBlock = some k → k ≠ r) (hbx : BoxAt w r [.slice a l.length c, .int .i64 (s.pos : Int), .bool s.bad]) (hp : s.pos ≤ 90000000) (hl : l.length ≤ 90000000) :
    Calls Tryd.prog 53 #[.pointer (some ⟨r, 0, none⟩)] w fun e w' => e = .returned (.string t) ∧ BoxAt w' r [.slice a l.length c, .int .i64 (s'.pos : Int), .bool s'.bad] ∧ w.grownBy w' (some r) := by
  obtain ⟨n, q, hq⟩ : ∃ n q, numR l 1 s = (n, q) := ⟨_, _, rfl⟩
  obtain ⟨p, bad⟩ := q
  unfold textR at ht
  rw [hq] at ht
  simp only at ht
  by_cases hc : bad = true ∨ l.length < p + n
  · rw [if_pos hc] at ht
    simp only [Prod.mk.injEq] at ht
    obtain ⟨rfl, rfl⟩ := ht
    exact rdText_short r p n bad a c l s hq hc w A hs hb hbx hp hl
  · rw [if_neg hc] at ht
    simp only [Prod.mk.injEq] at ht
    obtain ⟨rfl, rfl⟩ := ht
    have hbd : bad = false := by cases bad with | true => exact absurd (Or.inl rfl) hc | false => rfl
    subst hbd
    exact rdText_good r p n a c l s hq (by omega) w A hs hb (hrl (by have := numR_pos l 1 s; rw [hq] at this; simp only at this; omega)) hbx hp hl
end Go.Proofs.YtlobelfnjabajaaDoor
