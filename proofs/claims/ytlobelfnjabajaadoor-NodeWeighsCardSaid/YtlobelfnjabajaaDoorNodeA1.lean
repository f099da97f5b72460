/- nodes: light, awake -/
import Derived.Test.YtlobelfnjabajaaDoorNodeG1
import Derived.Test.YtlobelfnjabajaaDoorNodeM6
import Derived.Test.YtlobelfnjabajaaDoorNodeM7
namespace Go.Proofs.YtlobelfnjabajaaDoor
open Go.RowKit
set_option linter.unusedVariables false
set_option linter.unusedSimpArgs false

def lightB (n1 n2 n3 : Nat) : Bool := decide (n1 ≤ 300) && (decide (n3 ≤ 300) && decide (n2 ≤ 300))
theorem light_yes {n1 n2 n3 : Nat} (h : lightB n1 n2 n3 = true) : n1 ≤ 300 ∧ n3 ≤ 300 ∧ n2 ≤ 300 := by unfold lightB at h; simpa using h
set_option maxRecDepth 100000 in
theorem light7_is (lf : Bool) (n1 n2 n3 : Nat) (B : Bool) (hB : lightB n1 n2 n3 = B) (a1 a2 a3 : Option Addr) (c1 c2 c3 : Nat) (w : World) :
    Calls Tryd.prog 14 #[.agg #[.bool lf, .slice a1 n1 c1, .slice a2 n2 c2, .slice a3 n3 c3]] w fun e w' => e = .returned (.bool B) ∧ Below w.heap.size w w' := by
  unfold lightB at hB
  by_cases h1 : n1 ≤ 300
  · have i1 : (n1 : Int) ≤ 300 := by omega
    by_cases h3 : n3 ≤ 300
    · have i3 : (n3 : Int) ≤ 300 := by omega
      by_cases h2 : n2 ≤ 300
      · have i2 : (n2 : Int) ≤ 300 := by omega
        have hB' : B = true := by rw [← hB]; simp [h1, h2, h3]
        subst hB'
        clear hB h1 h2 h3
        go_enter Tryd.func14, Tryd.ntmps14
        go_wp2_with fail
        go_ret
        exact ⟨by first | rfl | exact ret_bool (by simp; omega), by go_grown⟩
      · have i2 : (300 : Int) < (n2 : Int) := by omega
        have hB' : B = false := by rw [← hB]; simp [h1, h2, h3]
        subst hB'
        clear hB h1 h2 h3
        go_enter Tryd.func14, Tryd.ntmps14
        go_wp2_with fail
        go_ret
        exact ⟨by first | rfl | exact ret_bool (by simp; omega), by go_grown⟩
    · have i3 : (300 : Int) < (n3 : Int) := by omega
      have hB' : B = false := by rw [← hB]; simp [h1, h3]
      subst hB'
      clear hB h1 h3
      go_enter Tryd.func14, Tryd.ntmps14
      go_wp2_with fail
      go_ret
      exact ⟨rfl, by go_grown⟩
  · have i1 : (300 : Int) < (n1 : Int) := by omega
    have hB' : B = false := by rw [← hB]; simp [h1]
    subst hB'
    clear hB h1
    go_enter Tryd.func14, Tryd.ntmps14
    go_wp2_with fail
    go_ret
    exact ⟨rfl, by go_grown⟩
def awakeE : Nd.Ent := ⟨⟨#[97]⟩, ⟨#[120]⟩, 0, 0⟩
def awakeL : List UInt8 := [1, 0, 1, 97, 0, 1, 120]
theorem awakeE_right : nodeB true [awakeE] [] [] = true := by
  unfold nodeB leafB
  have h1 : entsK [awakeE] [awakeE].length = true := by decide
  have h2 : Nd.risB ([awakeE].map (·.key)) = true := ris_first _
  rw [h1, h2]; rfl
theorem awakeE_bytes : nodeL true [awakeE] [] [] = awakeL := by decide
theorem awakeL_ok : leafOk awakeL = true := by
  obtain ⟨_, _, h1, h2⟩ := leafG_of awakeE_right
  rw [awakeE_bytes] at h1 h2
  unfold leafOk
  rw [h1, h2, awakeE_right, awakeE_bytes]; simp
theorem awakeL_ents : (leafG awakeL).1 = [awakeE] := by
  obtain ⟨_, _, h1, _⟩ := leafG_of awakeE_right
  rw [awakeE_bytes] at h1
  exact h1
theorem awakeGet (a : Option Addr) (c : Nat) (w : World) (A : Nat → Addr) {S : Nat → Prop} [Has S 1] [Has S 2] (hs : SentsOn S w A) (hb : BytesAt w (.slice a 7 c) awakeL) :
    Calls Tryd.prog 17 #[.bool true, .slice a 7 c] w fun e w' => (∃ a1 a2 a3 c1 c2 c3, e = .returned (.tuple #[.agg #[.bool true, .slice a1 1 c1, .slice a2 0 c2, .slice a3 0 c3], .nilIface])) ∧ Below w.heap.size w w' := by
  refine (nodeGet_leafAt awakeL true awakeL_ok a c w A hs hb (by decide)).mono ?_
  rintro e w' ⟨h, hb'⟩
  rw [if_pos rfl, awakeL_ents] at h
  obtain ⟨a1, a2, a3, c1, c2, c3, ev, lp, he, _, _, _, hE⟩ := h
  obtain ⟨rfl, _⟩ := hE.isNil
  exact ⟨⟨a1, a2, a3, c1, c2, c3, he⟩, hb'⟩
set_option maxRecDepth 100000 in
set_option maxHeartbeats 2000000 in
theorem awake7_any (w : World) (A : Nat → Addr) {S : Nat → Prop} [Has S 1] [Has S 2] (hs : SentsOn S w A) : Calls Tryd.prog 15 #[] w fun e w' => e = .returned (.bool true) ∧ Below w.heap.size w w' := by
  have HS := Lib.hid hs
  have hkey : Nd.keyB ⟨#[97]⟩ = true := by decide
  have HKEY := Lib.hid hkey
  clear hs hkey
  go_enter Tryd.func15, Tryd.ntmps15
  go_upto_region 2 with (go_at_call 16; (refine (nodePutL_ok [awakeE] awakeE_right awakeL awakeE_bytes _ 1 _ A (HS.out.below (by go_grown)) (RowAt.one (E := eEnt) w awakeE #[.string ⟨#[97]⟩, .string ⟨#[120]⟩, .int .i64 0, .int .i64 0] 44 rfl _ rfl) (by decide)).mono ?_); (rintro e w1 ⟨⟨a1, c1, rfl, ho1⟩, hb1⟩); (have HO1 := Lib.hid ho1); (have HB1 := Lib.hid ((show Below w.heap.size w _ by go_grown).trans (hb1.mono (by simp)))); (clear ho1 hb1))
  go_upto_region 3 with (go_at_call 17; (refine (awakeGet _ _ _ A (HS.out.below HB1.out) HO1.out).mono ?_); (rintro e w2 ⟨⟨a2, a3, a4, c2, c3, c4, rfl⟩, hb2⟩); (have HB2 := Lib.hid (below_step HB1.out hb2)); (have HO2 := Lib.hid (HO1.out.below hb2)); (clear hb2))
  refine wp_name fun V hV => ?_
  have HX := Lib.hid (show BoxAt V w2.heap.size [.bool true, .slice a2 1 c2, .slice a3 0 c3, .slice a4 0 c4] by rw [hV]; exact BoxAt.new _ [_, _, _, _] _)
  have HBV := Lib.hid (show Below w.heap.size w V by rw [hV]; exact HB2.out.alloc HB2.out.size _)
  have HOV := Lib.hid (show BytesAt V (.slice a1 awakeL.length c1) awakeL by rw [hV]; exact HO2.out.below ((Below.refl _ _).alloc (Nat.le_refl _) _))
  clear hV
  obtain ⟨m0, m1, m2, m3⟩ := HX.out.four
  have hcv : (convert 27 9 (.slice a1 awakeL.length c1)).run Tryd.prog V = .ok (.string ⟨#[1, 0, 1, 97, 0, 1, 120]⟩) V := string_of HOV.out
  go_wp2_with (go_at_call 21; (refine (nodeKey_is _ true HKEY.out _).mono ?_); (rintro e w3 ⟨rfl, rfl⟩))
  go_ret
  exact ⟨rfl, HBV.out⟩
set_option maxRecDepth 100000 in
set_option maxHeartbeats 2000000 in
theorem nodeSames_walk {S : Nat → Prop} [Has S 1] [Has S 2] (l1 l2 : Bool) (es1 es2 : List Nd.Ent) (ks1 ks2 : List ByteArray) (ki1 ki2 : List Int) (a1 a2 a3 b1 b2 b3 : Option Addr) (c1 c2 c3 d1 d2 d3 : Nat) (w : World) (A : Nat → Addr) (hs : SentsOn S w A) (h1 : RowAt eEnt w (.slice a1 es1.length c1) es1) (h2 : RowAt eStr w (.slice a2 ks1.length c2) ks1) (h3 : IntsAt w (.slice a3 ki1.length c3) ki1) (k1 : RowAt eEnt w (.slice b1 es2.length d1) es2) (k2 : RowAt eStr w (.slice b2 ks2.length d2) ks2) (k3 : IntsAt w (.slice b3 ki2.length d3) ki2) :
    Calls Tryd.prog 4 #[.agg #[.bool l1, .slice a1 es1.length c1, .slice a2 ks1.length c2, .slice a3 ki1.length c3], .agg #[.bool l2, .slice b1 es2.length d1, .slice b2 ks2.length d2, .slice b3 ki2.length d3]] w fun e w' => e = .returned (.bool true) ∧ Below w.heap.size w w' := by
  have HS := Lib.hid hs
  have H1 := Lib.hid h1
  have H2 := Lib.hid h2
  have H3 := Lib.hid h3
  have K1 := Lib.hid k1
  have K2 := Lib.hid k2
  have K3 := Lib.hid k3
  have hself := nodeEq_self l1 es1 ks1 ki1
  clear hs h1 h2 h3 k1 k2 k3
  go_enter Tryd.func4, Tryd.ntmps4
  go_upto_region 1 with fail
  refine wp_name fun W hW => ?_
  have HX := Lib.hid (show BoxAt W w.heap.size [.bool l1, .slice a1 es1.length c1, .slice a2 ks1.length c2, .slice a3 ki1.length c3] by rw [hW]; exact (BoxAt.new w [_, _, _, _] _).alloc _)
  have HY := Lib.hid (show BoxAt W (w.heap.size + 1) [.bool l2, .slice b1 es2.length d1, .slice b2 ks2.length d2, .slice b3 ki2.length d3] by rw [hW]; exact BoxAt.newAt _ _ (by simp) [_, _, _, _] _)
  have HB := Lib.hid (show Below w.heap.size w W by rw [hW]; go_grown)
  clear hW
  obtain ⟨m0, m1, m2, m3⟩ := HX.out.four
  obtain ⟨n0, n1, n2, n3⟩ := HY.out.four
  have p0 := Later.cell m0
  have p1 := Later.cell m1
  have p2 := Later.cell m2
  have p3 := Later.cell m3
  have q0 := Later.cell n0
  have q1 := Later.cell n1
  have q2 := Later.cell n2
  have q3 := Later.cell n3
  have hW : ∀ x : Later W, Below w.heap.size w x.world := fun x => below_step HB.out x.below
  have HW := Lib.hid hW
  clear hW
  refine wp_region_later (by kernel_rfl) (by kernel_rfl) ?_
  repeat (first | go_big_quiet_step (first
    | (go_at_call 20; exact Calls.later_of (nodeSame_any _ _ _ _ _ _ _ _ _ _ _ _ _ _ _ _ _ _ _ _ _ (H1.out.below (HW.out _)) (H2.out.below (HW.out _)) (H3.out.below (HW.out _)) (by first | exact K1.out.below (HW.out _) | exact H1.out.below (HW.out _)) (by first | exact K2.out.below (HW.out _) | exact H2.out.below (HW.out _)) (by first | exact K3.out.below (HW.out _) | exact H3.out.below (HW.out _))))
    | (go_at_call 18; exact Calls.later_of (refSame7_any _ _ _ _ _ _ _ _ _ _ _ _ _ _ _ _ _ _ _ _ _ (H1.out.below (HW.out _)) (H2.out.below (HW.out _)) (H3.out.below (HW.out _)) (K1.out.below (HW.out _)) (K2.out.below (HW.out _)) (K3.out.below (HW.out _))))
    | (go_at_call 15; exact Calls.later_of (awake7_any _ A (HS.out.below (HW.out _))))) | quiet_step (fail))
  refine wpQuiet_nil ?_
  intro xw
  have HXW := Lib.hid xw.below
  go_wp2_with fail
  go_ret
  exact ⟨rfl, below_step HB.out HXW.out⟩
theorem keyB_same {s : ByteArray} {B : Bool} (h : Nd.keyB s = B) : Nd.keyB s = B := h
set_option maxRecDepth 100000 in
set_option maxHeartbeats 2000000 in
theorem nodeFinds_walk {S : Nat → Prop} [Has S 1] [Has S 2] (lf : Bool) (es : List Nd.Ent) (ks : List ByteArray) (ki : List Int) (a1 a2 a3 : Option Addr) (c1 c2 c3 : Nat) (key : ByteArray) (w : World) (A : Nat → Addr) (hs : SentsOn S w A) (h1 : RowAt eEnt w (.slice a1 es.length c1) es) (h2 : RowAt eStr w (.slice a2 ks.length c2) ks) (h3 : IntsAt w (.slice a3 ki.length c3) ki) :
    Calls Tryd.prog 5 #[.agg #[.bool lf, .slice a1 es.length c1, .slice a2 ks.length c2, .slice a3 ki.length c3], .string key] w fun e w' => e = .returned (.bool true) ∧ Below w.heap.size w w' := by
  have HS := Lib.hid hs
  have H1 := Lib.hid h1
  have H2 := Lib.hid h2
  have H3 := Lib.hid h3
  obtain ⟨K, hK⟩ : ∃ K, Nd.keyB key = K := ⟨_, rfl⟩
  obtain ⟨p, B, hp⟩ : ∃ p B, findT lf es ks key = (p, B) := ⟨_, _, rfl⟩
  obtain ⟨R, hR⟩ : ∃ R, nodeB lf es ks ki = R := ⟨_, rfl⟩
  have HK := Lib.hid hK
  have HP := Lib.hid hp
  have HR := Lib.hid hR
  clear hs h1 h2 h3 hK hp hR
  go_enter Tryd.func5, Tryd.ntmps5
  go_upto_region 1 with fail
  refine wp_name fun W hW => ?_
  have HX := Lib.hid (show BoxAt W w.heap.size [.bool lf, .slice a1 es.length c1, .slice a2 ks.length c2, .slice a3 ki.length c3] by rw [hW]; exact (BoxAt.new w [_, _, _, _] _))
  have HB := Lib.hid (show Below w.heap.size w W by rw [hW]; go_grown)
  clear hW
  obtain ⟨m0, m1, m2, m3⟩ := HX.out.four
  cases hl : lightB es.length ks.length ki.length with
  | false =>
    have HL := Lib.hid hl
    clear hl
    go_upto_region 2 with (go_at_call 14; (refine (light7_is lf _ _ _ false HL.out _ _ _ _ _ _ _).mono ?_); (rintro e w1 ⟨rfl, hb1⟩); (have HB1 := Lib.hid (below_step HB.out hb1)); (have HX1 := Lib.hid (HX.out.below hb1)); (clear hb1 m0 m1 m2 m3); (obtain ⟨m0, m1, m2, m3⟩ := HX1.out.four))
    go_wp2_with (first
      | (go_at_call 14; (refine (light7_is lf _ _ _ false HL.out _ _ _ _ _ _ _).mono ?_); (rintro e w2 ⟨rfl, hb2⟩); (have HB2 := Lib.hid (below_step HB1.out hb2)); (clear hb2))
      | (go_at_call 15; (refine (awake7_any _ A (HS.out.below HB2.out)).mono ?_); (rintro e w3 ⟨rfl, hb3⟩); (have HB3 := Lib.hid (below_step HB2.out hb3)); (clear hb3)))
    go_ret
    exact ⟨rfl, HB3.out⟩
  | true =>
    have HL := Lib.hid hl
    obtain ⟨q1, q3, q2⟩ := light_yes hl
    clear hl
    go_upto_region 3 with (first
      | (go_at_call 14; (refine (light7_is lf _ _ _ true HL.out _ _ _ _ _ _ _).mono ?_); (rintro e w1 ⟨rfl, hb1⟩); (have HB1 := Lib.hid (below_step HB.out hb1)); (have HX1 := Lib.hid (HX.out.below hb1)); (clear hb1 m0 m1 m2 m3); (obtain ⟨m0, m1, m2, m3⟩ := HX1.out.four))
      | (go_at_call 21; (refine (nodeKey_is _ K HK.out _).mono ?_); (rintro e w2 ⟨rfl, rfl⟩))
      | (go_at_call 22; (refine (refKey_is _ K HK.out _).mono ?_); (rintro e w3 ⟨rfl, rfl⟩)))
    go_upto_region 4 with (go_at_call 23; (refine (nodeFind_is lf es ks key p B HP.out _ _ _ _ _ _ _ _ (H1.out.below HB1.out) (H2.out.below HB1.out)).mono ?_); (rintro e w4 ⟨rfl, hb4⟩); (have HB4 := Lib.hid (below_step HB1.out hb4)); (have HX4 := Lib.hid (HX1.out.below hb4)); (clear hb4 m0 m1 m2 m3); (obtain ⟨m0, m1, m2, m3⟩ := HX4.out.four))
    cases R with
    | false =>
      go_wp2_with (first
        | (go_at_call 24; (refine (refRight_is lf es ks ki false HR.out _ _ _ _ _ _ _ (H1.out.below HB4.out) (H2.out.below HB4.out) (H3.out.below HB4.out) (by omega) (by omega) (by omega)).mono ?_); (rintro e w5 ⟨rfl, hb5⟩); (have HB5 := Lib.hid (below_step HB4.out hb5)); (clear hb5))
        | (go_at_call 15; (refine (awake7_any _ A (HS.out.below HB5.out)).mono ?_); (rintro e w6 ⟨rfl, hb6⟩); (have HB6 := Lib.hid (below_step HB5.out hb6)); (clear hb6)))
      go_ret
      exact ⟨rfl, HB6.out⟩
    | true =>
      go_wp2_with (first
        | (go_at_call 24; (refine (refRight_is lf es ks ki true HR.out _ _ _ _ _ _ _ (H1.out.below HB4.out) (H2.out.below HB4.out) (H3.out.below HB4.out) (by omega) (by omega) (by omega)).mono ?_); (rintro e w5 ⟨rfl, hb5⟩); (have HB5 := Lib.hid (below_step HB4.out hb5)); (have HX5 := Lib.hid (HX4.out.below hb5)); (clear hb5 m0 m1 m2 m3); (obtain ⟨m0, m1, m2, m3⟩ := HX5.out.four))
        | (go_at_call 25; (refine (refFind_is lf es ks key p B HP.out _ _ _ _ _ _ _ _ (H1.out.below HB5.out) (H2.out.below HB5.out)).mono ?_); (rintro e w6 ⟨rfl, hb6⟩); (have HB6 := Lib.hid (below_step HB5.out hb6)); (clear hb6))
        | (go_at_call 15; (refine (awake7_any _ A (HS.out.below HB6.out)).mono ?_); (rintro e w7 ⟨rfl, hb7⟩); (have HB7 := Lib.hid (below_step HB6.out hb7)); (clear hb7)))
      go_ret
      exact ⟨rfl, HB7.out⟩
end Go.Proofs.YtlobelfnjabajaaDoor
