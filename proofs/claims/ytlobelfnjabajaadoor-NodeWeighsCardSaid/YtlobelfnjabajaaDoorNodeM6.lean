/- merged: NodeR1, NodeF1, NodeF2 -/
import Derived.Test.YtlobelfnjabajaaDoorNodeM4
import Derived.Deep.DeepCutAuto
/- nodes: the document's in, Right -/
namespace Go.Proofs.YtlobelfnjabajaaDoor
open Go.RowKit
set_option linter.unusedVariables false
set_option linter.unusedSimpArgs false

set_option maxRecDepth 100000 in
theorem refIn7_any (v : Value) (l : List Int) (n : Int) (w : World) (h : IntsAt w v l) :
    Calls Tryd.prog 66 #[v, .int .i64 n] w fun e w' => e = .returned (.bool (decide (n ∈ l))) ∧ w = w' := by
  obtain ⟨a1, c1, rfl, hlc1, hcm1, hl1⟩ := h
  unfold maxLen at hcm1
  have HL1 := Lib.hid hl1
  clear hl1
  go_enter Tryd.func66, Tryd.ntmps66
  go_wp2
  go_loop [5] (fun i => ∃ k : Nat, k ≤ l.length ∧ i = .int .i64 k ∧ ¬ n ∈ l.take k) (fun i => l.length - (intOf i).toNat)
  case atStart => exact ⟨0, by omega, rfl, by simp⟩
  case round =>
    obtain ⟨k, hk, rfl, hnm⟩ := hrel
    have HN := Lib.hid hnm
    clear hnm
    by_cases hlt : k < l.length
    · obtain ⟨x, hx⟩ := getElem?_some_of_lt hlt
      rcases HL1.out with hn | ⟨b1, o1, rfl, hc1⟩
      · rw [hn] at hlt; simp at hlt
      have hcx := hc1 k x hx
      have HX := Lib.hid hx
      have hlt1 : (k : Int) < (l.length : Int) := by omega
      clear hx hc1
      by_cases hxn : x = n
      · have hb : (x == n) = true := by simpa using hxn
        have HM := Lib.hid (show decide (n ∈ l) = true by simp; rw [← hxn]; exact List.mem_of_getElem? HX.out)
        clear hxn
        go_wp2
        go_ret
        exact ⟨ret_bool HM.out.symm, rfl⟩
      · have hb : (x == n) = false := by simpa using hxn
        have HNE := Lib.hid hxn
        clear hxn
        go_wp2
        go_round
        case rel => exact ⟨k + 1, by omega, by go_num, not_mem_take_succ' HN.out HX.out HNE.out⟩
        case measure => simp [intOf]; omega
    · have hkk : k = l.length := by omega
      subst hkk
      have HM := Lib.hid (show decide (n ∈ l) = false by have := HN.out; rw [List.take_length] at this; simpa using this)
      go_wp2
      go_ret
      exact ⟨ret_bool HM.out.symm, rfl⟩
theorem refIn7_is (v : Value) (l : List Int) (n : Int) (B : Bool) (hB : decide (n ∈ l) = B) (w : World) (h : IntsAt w v l) :
    Calls Tryd.prog 66 #[v, .int .i64 n] w fun e w' => e = .returned (.bool B) ∧ w = w' := by subst hB; exact refIn7_any v l n w h

theorem int_cellR {w : World} {a : Option Addr} {n c : Nat} {l : List Int} (h : IntsAt w (.slice a n c) l) {k : Nat} {x : Int} (hx : l[k]? = some x) : ∃ b o, a = some ⟨b, o, none⟩ ∧ w.cell? ⟨b, o + k, none⟩ = some (.int .i64 x) := by
  obtain ⟨a', c', e, h1, h2, h3⟩ := h
  obtain ⟨rfl, rfl⟩ : a = a' ∧ c = c' := by injection e with e1 e2 e3; exact ⟨e1, e3⟩
  rcases h3 with rfl | ⟨b, o, rfl, hc⟩
  · simp at hx
  · exact ⟨b, o, rfl, hc k x hx⟩
/-! ### ways of an entry, of a key, beside the one ahead -/
theorem risB_no {ts : List ByteArray} {k : Nat} (h : Nd.risK ts k = false) (hk : k ≤ ts.length) : Nd.risB ts = false := Nd.risK_false h _ hk
theorem leafB_no1 {es : List Nd.Ent} {ks : List ByteArray} {ki : List Int} {k : Nat} {e : Nd.Ent} (hlt : k < es.length) (he : es[k]? = some e) (h : Nd.entB e = false) : nodeB true es ks ki = false := by
  unfold nodeB leafB
  rw [entsK_false (k := k + 1) (by rw [entsK, he]; simp [h]) es.length (by omega)]; simp
theorem leafB_no2 {es : List Nd.Ent} {ks : List ByteArray} {ki : List Int} {k : Nat} (hlt : k ≤ es.length) (h : Nd.risK (es.map (·.key)) k = false) : nodeB true es ks ki = false := by
  unfold nodeB leafB
  rw [risB_no h (by simpa using hlt)]; simp
theorem leafB_end {es : List Nd.Ent} {ks : List ByteArray} {ki : List Int} (h1 : entsK es es.length = true) (h2 : Nd.risK (es.map (·.key)) es.length = true) : nodeB true es ks ki = (decide (ks.length = 0) && (decide (ki.length = 0) && decide (es.length ≤ 65535))) := by
  unfold nodeB leafB Nd.risB
  rw [List.length_map, h1, h2]
  simp [Bool.and_assoc]
theorem ris_first (ts : List ByteArray) : Nd.risK ts 1 = true := by simp [Nd.risK]
theorem ris_next {ts : List ByteArray} {k : Nat} {x y : ByteArray} (hk : 0 < k) (h : Nd.risK ts k = true) (hx : ts[k]? = some x) (hy : ts[k - 1]? = some y) : Nd.risK ts (k + 1) = Nd.less y x := by
  rw [Nd.risK, h, Nd.atS_of hx, Nd.atS_of hy]; simp; omega
theorem innerB_no0 {es : List Nd.Ent} {ks : List ByteArray} {ki : List Int} (h : ¬ (es.length = 0 ∧ 2 ≤ ki.length ∧ ki.length = ks.length + 1)) : nodeB false es ks ki = false := by
  unfold nodeB innerB
  rw [decide_eq_false (by intro h2; exact h ⟨h2.1, h2.2.1, h2.2.2.1⟩)]; rfl
theorem innerB_no1 {es : List Nd.Ent} {ks : List ByteArray} {ki : List Int} {k : Nat} (hk : k ≤ ki.length) (h : kidsK ki k = false) : nodeB false es ks ki = false := by
  unfold nodeB innerB
  rw [kidsK_false h _ hk]; simp
theorem innerB_no2 {es : List Nd.Ent} {ks : List ByteArray} {ki : List Int} {k : Nat} (hk : k ≤ ks.length) (h : keysK ks k = false) : nodeB false es ks ki = false := by
  unfold nodeB innerB
  rw [keysK_false h _ hk]; simp
theorem innerB_no3 {es : List Nd.Ent} {ks : List ByteArray} {ki : List Int} {k : Nat} (hk : k ≤ ks.length) (h : Nd.risK ks k = false) : nodeB false es ks ki = false := by
  unfold nodeB innerB
  rw [risB_no h hk]; simp
theorem innerB_yes {es : List Nd.Ent} {ks : List ByteArray} {ki : List Int} (h0 : es.length = 0 ∧ 2 ≤ ki.length ∧ ki.length = ks.length + 1) (h1 : kidsK ki ki.length = true) (h2 : keysK ks ks.length = true) (h3 : Nd.risK ks ks.length = true) : nodeB false es ks ki = true := by
  have := kidsK_few (Nat.le_refl _) h1
  unfold nodeB innerB Nd.risB
  rw [h1, h2, h3, decide_eq_true ⟨h0.1, h0.2.1, h0.2.2, by omega⟩, decide_eq_true (by omega)]; rfl
set_option maxRecDepth 100000 in
set_option maxHeartbeats 4000000 in
theorem refRight_leaf (es : List Nd.Ent) (ks : List ByteArray) (ki : List Int) (a1 a2 a3 : Option Addr) (c1 c2 c3 : Nat) (w : World) (h1 : RowAt eEnt w (.slice a1 es.length c1) es) (hl1 : es.length ≤ 1000000) (hl2 : ks.length ≤ 1000000) (hl3 : ki.length ≤ 1000000) :
    Calls Tryd.prog 24 #[.agg #[.bool true, .slice a1 es.length c1, .slice a2 ks.length c2, .slice a3 ki.length c3]] w fun e w' => e = .returned (.bool (nodeB true es ks ki)) ∧ Below w.heap.size w w' := by
  have H1 := Lib.hid h1
  clear h1
  go_enter Tryd.func24, Tryd.ntmps24
  go_upto_region 1 with fail
  refine wp_name fun W hW => ?_
  have HX := Lib.hid (show BoxAt W w.heap.size [.bool true, .slice a1 es.length c1, .slice a2 ks.length c2, .slice a3 ki.length c3] by rw [hW]; exact BoxAt.new w [_, _, _, _] _)
  have HB := Lib.hid (show Below w.heap.size w W by rw [hW]; go_grown)
  clear hW
  obtain ⟨m0, m1, m2, m3⟩ := HX.out.four
  go_wp2_with fail
  go_loopw [3] (fun i wr => ∃ k : Nat, k ≤ es.length ∧ i = .int .i64 k ∧ entsK es k = true ∧ Nd.risK (es.map (·.key)) k = true ∧ BoxAt wr w.heap.size [.bool true, .slice a1 es.length c1, .slice a2 ks.length c2, .slice a3 ki.length c3] ∧ Below w.heap.size w wr) (fun i _ => es.length - (intOf i).toNat)
  case atStart => exact ⟨0, by omega, rfl, rfl, rfl, HX.out, HB.out⟩
  case round =>
    obtain ⟨k, hk, rfl, hek, hrk, hbx, hbr⟩ := hrel
    have HBX := Lib.hid hbx
    have HBR := Lib.hid hbr
    have HEK := Lib.hid hek
    have HRK := Lib.hid hrk
    clear m0 m1 m2 m3 hek hrk
    obtain ⟨m0, m1, m2, m3⟩ := hbx.four
    by_cases hlt : k < es.length
    · obtain ⟨e, he⟩ := getElem?_some_of_lt hlt
      obtain ⟨b1, o1, rfl, e0, e1, e2, e3⟩ := ent_cells (H1.out.below HBR.out) he
      have hlt1 : (k : Int) < (es.length : Int) := by omega
      have HE := Lib.hid he
      clear he
      cases hb : Nd.entB e with
      | false =>
        have HEB := Lib.hid hb
        have HF := Lib.hid (leafB_no1 (ks := ks) (ki := ki) hlt HE.out hb)
        clear hb
        have p0 := Later.cell m0
        have p1 := Later.cell m1
        have p2 := Later.cell m2
        have p3 := Later.cell m3
        have q0 := Later.cell e0
        have q1 := Later.cell e1
        have q2 := Later.cell e2
        have q3 := Later.cell e3
        go_upto_region 5 with fail
        refine wp_region_later (by kernel_rfl) (by kernel_rfl) ?_
        repeat (first | go_big_quiet_step ((go_at_call 64; exact Calls.later_of (refEntry_is e _ HEB.out _))) | quiet_step (fail))
        refine wpQuiet_nil ?_
        intro xw
        have HXW := Lib.hid xw.below
        have HB1 := Lib.hid (below_step HBR.out HXW.out)
        have HX1 := Lib.hid (HBX.out.below HXW.out)
        go_wp2_with fail
        go_ret
        exact ⟨ret_bool HF.out.symm, HB1.out⟩
      | true =>
        have HEB := Lib.hid hb
        have HK1 := Lib.hid (show entsK es (k + 1) = true by rw [entsK, HEK.out, HE.out]; exact hb)
        clear hb
        by_cases h0 : k = 0
        · have hk0 : decide (0 < k) = false := by simpa using h0
          have hris := Lib.hid (show Nd.risK (es.map (·.key)) (k + 1) = true by rw [h0]; exact ris_first _)
          clear h0
          have p0 := Later.cell m0
          have p1 := Later.cell m1
          have p2 := Later.cell m2
          have p3 := Later.cell m3
          have q0 := Later.cell e0
          have q1 := Later.cell e1
          have q2 := Later.cell e2
          have q3 := Later.cell e3
          go_upto_region 5 with fail
          refine wp_region_later (by kernel_rfl) (by kernel_rfl) ?_
          repeat (first | go_big_quiet_step ((go_at_call 64; exact Calls.later_of (refEntry_is e _ HEB.out _))) | quiet_step (fail))
          refine wpQuiet_nil ?_
          intro xw
          have HXW := Lib.hid xw.below
          have HB1 := Lib.hid (below_step HBR.out HXW.out)
          have HX1 := Lib.hid (HBX.out.below HXW.out)
          go_wp2_with fail
          go_roundw
          case rel => exact ⟨k + 1, by omega, by go_num, HK1.out, hris.out, HX1.out, HB1.out⟩
          case measure => simp [intOf]; omega
        · obtain ⟨y, hy⟩ := getElem?_some_of_lt (show k - 1 < es.length by omega)
          have hk1 : (1 : Int) ≤ (k : Int) := by omega
          have hk0 : decide (0 < k) = true := by simp; omega
          have hle := Nd.leq_less e.key y.key
          have HST := Lib.hid (ris_next (ts := es.map (·.key)) (k := k) (x := e.key) (y := y.key) (by omega) HRK.out (by rw [List.getElem?_map, HE.out]; rfl) (by rw [List.getElem?_map, hy]; rfl))
          obtain ⟨b2, o2, q2, d0, d1, d2, d3⟩ := ent_cells (H1.out.below HBR.out) hy
          obtain ⟨rfl, rfl⟩ : b1 = b2 ∧ o1 = o2 := by simpa using q2
          have HY := Lib.hid hy
          clear hy h0 q2
          cases hb : Nd.less y.key e.key with
          | true =>
            rw [hb] at hle
            simp only [Bool.not_true] at hle
            have HR1 := Lib.hid (HST.out.trans hb)
            clear hb
            have p0 := Later.cell m0
            have p1 := Later.cell m1
            have p2 := Later.cell m2
            have p3 := Later.cell m3
            have q0 := Later.cell e0
            have q1 := Later.cell e1
            have q2 := Later.cell e2
            have q3 := Later.cell e3
            have r0 := Later.cell d0
            have r1 := Later.cell d1
            have r2 := Later.cell d2
            have r3 := Later.cell d3
            go_upto_region 5 with fail
            refine wp_region_later (by kernel_rfl) (by kernel_rfl) ?_
            repeat (first | go_big_quiet_step ((go_at_call 64; exact Calls.later_of (refEntry_is e _ HEB.out _))) | quiet_step (fail))
            refine wpQuiet_nil ?_
            intro xw
            have HXW := Lib.hid xw.below
            have HB1 := Lib.hid (below_step HBR.out HXW.out)
            have HX1 := Lib.hid (HBX.out.below HXW.out)
            go_wp2_with fail
            go_roundw
            case rel => exact ⟨k + 1, by omega, by go_num, HK1.out, HR1.out, HX1.out, HB1.out⟩
            case measure => simp [intOf]; omega
          | false =>
            rw [hb] at hle
            simp only [Bool.not_false] at hle
            have HF := Lib.hid (leafB_no2 (es := es) (ks := ks) (ki := ki) (k := k + 1) (by omega) (HST.out.trans hb))
            clear hb
            have p0 := Later.cell m0
            have p1 := Later.cell m1
            have p2 := Later.cell m2
            have p3 := Later.cell m3
            have q0 := Later.cell e0
            have q1 := Later.cell e1
            have q2 := Later.cell e2
            have q3 := Later.cell e3
            have r0 := Later.cell d0
            have r1 := Later.cell d1
            have r2 := Later.cell d2
            have r3 := Later.cell d3
            go_upto_region 5 with fail
            refine wp_region_later (by kernel_rfl) (by kernel_rfl) ?_
            repeat (first | go_big_quiet_step ((go_at_call 64; exact Calls.later_of (refEntry_is e _ HEB.out _))) | quiet_step (fail))
            refine wpQuiet_nil ?_
            intro xw
            have HXW := Lib.hid xw.below
            have HB1 := Lib.hid (below_step HBR.out HXW.out)
            have HX1 := Lib.hid (HBX.out.below HXW.out)
            go_wp2_with fail
            go_ret
            exact ⟨ret_bool HF.out.symm, HB1.out⟩
    · have hkk : k = es.length := by omega
      subst hkk
      have HD := Lib.hid (leafB_end (ks := ks) (ki := ki) HEK.out HRK.out)
      by_cases d1 : ks.length = 0
      · have d1b : ((ks.length : Int) == 0) = true := by simpa using d1
        by_cases d2 : ki.length = 0
        · have d2b : ((ki.length : Int) == 0) = true := by simpa using d2
          go_wp2_with fail
          go_ret
          exact ⟨ret_bool (by rw [HD.out, decide_eq_true d1, decide_eq_true d2, Bool.true_and, Bool.true_and, Bool.eq_iff_iff]; simp; omega), HBR.out⟩
        · have d2b : ((ki.length : Int) == 0) = false := by simpa using d2
          go_wp2_with fail
          go_ret
          exact ⟨ret_bool (by rw [HD.out, decide_eq_false d2]; simp), HBR.out⟩
      · have d1b : ((ks.length : Int) == 0) = false := by simpa using d1
        go_wp2_with fail
        go_ret
        exact ⟨ret_bool (by rw [HD.out, decide_eq_false d1]; simp), HBR.out⟩
set_option maxRecDepth 100000 in
set_option maxHeartbeats 4000000 in
theorem refRight_inner (es : List Nd.Ent) (ks : List ByteArray) (ki : List Int) (a1 a2 a3 : Option Addr) (c1 c2 c3 : Nat) (w : World) (h2 : RowAt eStr w (.slice a2 ks.length c2) ks) (h3 : IntsAt w (.slice a3 ki.length c3) ki) (hl1 : es.length ≤ 1000000) (hl2 : ks.length ≤ 1000000) (hl3 : ki.length ≤ 1000000) :
    Calls Tryd.prog 24 #[.agg #[.bool false, .slice a1 es.length c1, .slice a2 ks.length c2, .slice a3 ki.length c3]] w fun e w' => e = .returned (.bool (nodeB false es ks ki)) ∧ Below w.heap.size w w' := by
  have H2 := Lib.hid h2
  have H3 := Lib.hid h3
  have hc3 : ki.length ≤ c3 := by
    obtain ⟨a', c', e, q1, q2, _⟩ := h3
    obtain ⟨rfl, rfl⟩ : a3 = a' ∧ c3 = c' := by injection e with e1 e2 e3; exact ⟨e1, e3⟩
    exact q1
  clear h2 h3
  by_cases d1 : 0 < es.length
  · have HF := Lib.hid (innerB_no0 (es := es) (ks := ks) (ki := ki) (by omega))
    have d1i : 0 < (es.length : Int) := by omega
    go_enter Tryd.func24, Tryd.ntmps24
    go_wp2
    go_ret
    exact ⟨ret_bool HF.out.symm, by go_grown⟩
  have d1i : (es.length : Int) ≤ 0 := by omega
  by_cases d2 : ki.length < 2
  · have HF := Lib.hid (innerB_no0 (es := es) (ks := ks) (ki := ki) (by omega))
    have d2i : (ki.length : Int) < 2 := by omega
    go_enter Tryd.func24, Tryd.ntmps24
    go_wp2
    go_ret
    exact ⟨ret_bool HF.out.symm, by go_grown⟩
  have d2i : 2 ≤ (ki.length : Int) := by omega
  by_cases d3 : ki.length = ks.length + 1
  · have d3b : ((ki.length : Int) - 1 != (ks.length : Int)) = false := by simp; omega
    have H0 := Lib.hid (show es.length = 0 ∧ 2 ≤ ki.length ∧ ki.length = ks.length + 1 from ⟨by omega, by omega, d3⟩)
    clear d1 d2 d3 d1i
    obtain rfl : es = [] := List.eq_nil_of_length_eq_zero H0.out.1
    rw [List.length_nil]
    go_enter Tryd.func24, Tryd.ntmps24
    go_upto_region 1 with fail
    refine wp_name fun W hW => ?_
    have HX := Lib.hid (show BoxAt W w.heap.size [.bool false, .slice a1 0 c1, .slice a2 ks.length c2, .slice a3 ki.length c3] by rw [hW]; exact BoxAt.new w [_, _, _, _] _)
    have HB := Lib.hid (show Below w.heap.size w W by rw [hW]; go_grown)
    clear hW
    obtain ⟨m0, m1, m2, m3⟩ := HX.out.four
    go_wp2_with fail
    go_loopw [4] (fun i wr => ∃ k : Nat, k ≤ ki.length ∧ i = .int .i64 k ∧ kidsK ki k = true ∧ BoxAt wr w.heap.size [.bool false, .slice a1 0 c1, .slice a2 ks.length c2, .slice a3 ki.length c3] ∧ Below w.heap.size w wr) (fun i _ => ki.length - (intOf i).toNat)
    case atStart => exact ⟨0, by omega, rfl, rfl, HX.out, HB.out⟩
    case round =>
      obtain ⟨k, hk, rfl, hek, hbx, hbr⟩ := hrel
      have HBX := Lib.hid hbx
      have HBR := Lib.hid hbr
      have HEK := Lib.hid hek
      have hfew := kidsK_few hk hek
      have hfewi : decide ((300 : Int) < (k : Int)) = false := by simp; omega
      clear m0 m1 m2 m3 hek
      obtain ⟨m0, m1, m2, m3⟩ := hbx.four
      by_cases hlt : k < ki.length
      · obtain ⟨x, hx⟩ := getElem?_some_of_lt hlt
        obtain ⟨b1, o1, rfl, hcx⟩ := int_cellR (H3.out.below HBR.out) hx
        have HTK := Lib.hid ((H3.out.take (Nat.le_of_lt hlt)).below HBR.out)
        have hlt1 : (k : Int) < (ki.length : Int) := by omega
        have hkl : k ≤ c3 := by omega
        have htl : (ki.take k).length = k := by rw [List.length_take]; omega
        have HST := Lib.hid (show kidsK ki (k + 1) = (Nd.kidB x && !decide (x ∈ ki.take k)) by rw [kidsK, HEK.out, hx]; rfl)
        clear hx htl
        cases hb1 : Nd.kidB x with
        | false =>
          have HKB := Lib.hid hb1
          have HF := Lib.hid (innerB_no1 (es := []) (ks := ks) (ki := ki) (k := k + 1) (by omega) (by rw [HST.out, hb1]; rfl))
          clear hb1
          have p0 := Later.cell m0
          have p1 := Later.cell m1
          have p2 := Later.cell m2
          have p3 := Later.cell m3
          have q0 := Later.cell hcx
          go_upto_region 13 with fail
          refine wp_region_later (by kernel_rfl) (by kernel_rfl) ?_
          repeat (first | go_big_quiet_step ((go_at_call 65; exact Calls.later_same (refKid_is x _ HKB.out _))) | quiet_step (fail))
          refine wpQuiet_nil ?_
          intro xw
          have HXW := Lib.hid xw.below
          have HB1 := Lib.hid (below_step HBR.out HXW.out)
          have HX1 := Lib.hid (HBX.out.below HXW.out)
          go_wp2_with fail
          go_ret
          exact ⟨ret_bool HF.out.symm, HB1.out⟩
        | true =>
          have HKB := Lib.hid hb1
          cases hb2 : decide (x ∈ ki.take k) with
          | true =>
            have HKC := Lib.hid hb2
            have HF := Lib.hid (innerB_no1 (es := []) (ks := ks) (ki := ki) (k := k + 1) (by omega) (by rw [HST.out, hb1, hb2]; rfl))
            clear hb1 hb2
            have p0 := Later.cell m0
            have p1 := Later.cell m1
            have p2 := Later.cell m2
            have p3 := Later.cell m3
            have q0 := Later.cell hcx
            go_upto_region 13 with fail
            refine wp_region_later (by kernel_rfl) (by kernel_rfl) ?_
            repeat (first | go_big_quiet_step (first | (go_at_call 65; exact Calls.later_same (refKid_is x _ HKB.out _)) | (go_at_call 66; exact Calls.later_same (refIn7_is _ (ki.take k) x _ HKC.out _ (HTK.out.below (Later.below _))))) | quiet_step (fail))
            refine wpQuiet_nil ?_
            intro xw
            have HXW := Lib.hid xw.below
            have HB1 := Lib.hid (below_step HBR.out HXW.out)
            have HX1 := Lib.hid (HBX.out.below HXW.out)
            go_wp2_with fail
            go_ret
            exact ⟨ret_bool HF.out.symm, HB1.out⟩
          | false =>
            have HKC := Lib.hid hb2
            have HK1 := Lib.hid (show kidsK ki (k + 1) = true by rw [HST.out, hb1, hb2]; rfl)
            clear hb1 hb2
            have p0 := Later.cell m0
            have p1 := Later.cell m1
            have p2 := Later.cell m2
            have p3 := Later.cell m3
            have q0 := Later.cell hcx
            go_upto_region 13 with fail
            refine wp_region_later (by kernel_rfl) (by kernel_rfl) ?_
            repeat (first | go_big_quiet_step (first | (go_at_call 65; exact Calls.later_same (refKid_is x _ HKB.out _)) | (go_at_call 66; exact Calls.later_same (refIn7_is _ (ki.take k) x _ HKC.out _ (HTK.out.below (Later.below _))))) | quiet_step (fail))
            refine wpQuiet_nil ?_
            intro xw
            have HXW := Lib.hid xw.below
            have HB1 := Lib.hid (below_step HBR.out HXW.out)
            have HX1 := Lib.hid (HBX.out.below HXW.out)
            go_wp2_with fail
            go_roundw
            case rel => exact ⟨k + 1, by omega, by go_num, HK1.out, HX1.out, HB1.out⟩
            case measure => simp [intOf]; omega
      · have hkk : k = ki.length := by omega
        subst hkk
        go_wp2_with fail
        have HXa := HBX
        have HBa := HBR
        have HKI := HEK
        clear HBX HBR HEK HX HB hfew hfewi
        go_loopw [5] (fun i wr' => ∃ k : Nat, k ≤ ks.length ∧ i = .int .i64 k ∧ keysK ks k = true ∧ Nd.risK ks k = true ∧ BoxAt wr' w.heap.size [.bool false, .slice a1 0 c1, .slice a2 ks.length c2, .slice a3 ki.length c3] ∧ Below w.heap.size w wr') (fun i _ => ks.length - (intOf i).toNat)
        case atStart => exact ⟨0, by omega, rfl, rfl, rfl, HXa.out, HBa.out⟩
        case round =>
          obtain ⟨k, hk, rfl, hek, hrk, hbx, hbr⟩ := hrel
          have HBX := Lib.hid hbx
          have HBR := Lib.hid hbr
          have HEK := Lib.hid hek
          have HRK := Lib.hid hrk
          clear m0 m1 m2 m3 hek hrk
          obtain ⟨m0, m1, m2, m3⟩ := hbx.four
          by_cases hlt2 : k < ks.length
          · obtain ⟨x, hx⟩ := getElem?_some_of_lt hlt2
            obtain ⟨b1, o1, rfl, e0⟩ := str_cell (H2.out.below HBR.out) hx
            have hlt1 : (k : Int) < (ks.length : Int) := by omega
            have HE := Lib.hid hx
            clear hx
            cases hb : Nd.keyB x with
            | false =>
              have HEB := Lib.hid hb
              have HF := Lib.hid (innerB_no2 (es := []) (ks := ks) (ki := ki) (k := k + 1) (by omega) (by rw [keysK, HE.out]; simp [hb]))
              clear hb
              have p0 := Later.cell m0
              have p1 := Later.cell m1
              have p2 := Later.cell m2
              have p3 := Later.cell m3
              have q0 := Later.cell e0
              go_upto_region 18 with fail
              refine wp_region_later (by kernel_rfl) (by kernel_rfl) ?_
              repeat (first | go_big_quiet_step ((go_at_call 22; exact Calls.later_same (refKey_is x _ HEB.out _))) | quiet_step (fail))
              refine wpQuiet_nil ?_
              intro xw
              have HXW := Lib.hid xw.below
              have HB1 := Lib.hid (below_step HBR.out HXW.out)
              have HX1 := Lib.hid (HBX.out.below HXW.out)
              go_wp2_with fail
              go_ret
              exact ⟨ret_bool HF.out.symm, HB1.out⟩
            | true =>
              have HEB := Lib.hid hb
              have HK1 := Lib.hid (show keysK ks (k + 1) = true by rw [keysK, HEK.out, HE.out]; exact hb)
              clear hb
              by_cases h0 : k = 0
              · have hk0 : decide (0 < k) = false := by simpa using h0
                have hris := Lib.hid (show Nd.risK ks (k + 1) = true by rw [h0]; exact ris_first _)
                clear h0
                have p0 := Later.cell m0
                have p1 := Later.cell m1
                have p2 := Later.cell m2
                have p3 := Later.cell m3
                have q0 := Later.cell e0
                go_upto_region 18 with fail
                refine wp_region_later (by kernel_rfl) (by kernel_rfl) ?_
                repeat (first | go_big_quiet_step ((go_at_call 22; exact Calls.later_same (refKey_is x _ HEB.out _))) | quiet_step (fail))
                refine wpQuiet_nil ?_
                intro xw
                have HXW := Lib.hid xw.below
                have HB1 := Lib.hid (below_step HBR.out HXW.out)
                have HX1 := Lib.hid (HBX.out.below HXW.out)
                go_wp2_with fail
                go_roundw
                case rel => exact ⟨k + 1, by omega, by go_num, HK1.out, hris.out, HX1.out, HB1.out⟩
                case measure => simp [intOf]; omega
              · obtain ⟨y, hy⟩ := getElem?_some_of_lt (show k - 1 < ks.length by omega)
                obtain ⟨b2, o2, q2, d0⟩ := str_cell (H2.out.below HBR.out) hy
                obtain ⟨rfl, rfl⟩ : b1 = b2 ∧ o1 = o2 := by simpa using q2
                have hk1 : (1 : Int) ≤ (k : Int) := by omega
                have hk0 : decide (0 < k) = true := by simp; omega
                have hle := Nd.leq_less x y
                have HST := Lib.hid (ris_next (ts := ks) (k := k) (x := x) (y := y) (by omega) HRK.out HE.out hy)
                clear hy h0 q2
                cases hb : Nd.less y x with
                | true =>
                  rw [hb] at hle
                  simp only [Bool.not_true] at hle
                  have HR1 := Lib.hid (HST.out.trans hb)
                  clear hb
                  have p0 := Later.cell m0
                  have p1 := Later.cell m1
                  have p2 := Later.cell m2
                  have p3 := Later.cell m3
                  have q0 := Later.cell e0
                  have r0 := Later.cell d0
                  go_upto_region 18 with fail
                  refine wp_region_later (by kernel_rfl) (by kernel_rfl) ?_
                  repeat (first | go_big_quiet_step ((go_at_call 22; exact Calls.later_same (refKey_is x _ HEB.out _))) | quiet_step (fail))
                  refine wpQuiet_nil ?_
                  intro xw
                  have HXW := Lib.hid xw.below
                  have HB1 := Lib.hid (below_step HBR.out HXW.out)
                  have HX1 := Lib.hid (HBX.out.below HXW.out)
                  go_wp2_with fail
                  go_roundw
                  case rel => exact ⟨k + 1, by omega, by go_num, HK1.out, HR1.out, HX1.out, HB1.out⟩
                  case measure => simp [intOf]; omega
                | false =>
                  rw [hb] at hle
                  simp only [Bool.not_false] at hle
                  have HF := Lib.hid (innerB_no3 (es := []) (ks := ks) (ki := ki) (k := k + 1) (by omega) (HST.out.trans hb))
                  clear hb
                  have p0 := Later.cell m0
                  have p1 := Later.cell m1
                  have p2 := Later.cell m2
                  have p3 := Later.cell m3
                  have q0 := Later.cell e0
                  have r0 := Later.cell d0
                  go_upto_region 18 with fail
                  refine wp_region_later (by kernel_rfl) (by kernel_rfl) ?_
                  repeat (first | go_big_quiet_step ((go_at_call 22; exact Calls.later_same (refKey_is x _ HEB.out _))) | quiet_step (fail))
                  refine wpQuiet_nil ?_
                  intro xw
                  have HXW := Lib.hid xw.below
                  have HB1 := Lib.hid (below_step HBR.out HXW.out)
                  have HX1 := Lib.hid (HBX.out.below HXW.out)
                  go_wp2_with fail
                  go_ret
                  exact ⟨ret_bool HF.out.symm, HB1.out⟩
          · have hkk : k = ks.length := by omega
            subst hkk
            have HT := Lib.hid (innerB_yes H0.out HKI.out HEK.out HRK.out)
            go_wp2_with fail
            go_ret
            exact ⟨ret_bool HT.out.symm, HBR.out⟩
  · have HF := Lib.hid (innerB_no0 (es := es) (ks := ks) (ki := ki) (by omega))
    have d3b : ((ki.length : Int) - 1 != (ks.length : Int)) = true := by simp; omega
    go_enter Tryd.func24, Tryd.ntmps24
    go_wp2
    go_ret
    exact ⟨ret_bool HF.out.symm, by go_grown⟩
theorem refRight_is (lf : Bool) (es : List Nd.Ent) (ks : List ByteArray) (ki : List Int) (B : Bool) (hB : nodeB lf es ks ki = B) (a1 a2 a3 : Option Addr) (c1 c2 c3 : Nat) (w : World) (h1 : RowAt eEnt w (.slice a1 es.length c1) es) (h2 : RowAt eStr w (.slice a2 ks.length c2) ks) (h3 : IntsAt w (.slice a3 ki.length c3) ki) (hl1 : es.length ≤ 1000000) (hl2 : ks.length ≤ 1000000) (hl3 : ki.length ≤ 1000000) :
    Calls Tryd.prog 24 #[.agg #[.bool lf, .slice a1 es.length c1, .slice a2 ks.length c2, .slice a3 ki.length c3]] w fun e w' => e = .returned (.bool B) ∧ Below w.heap.size w w' := by
  subst hB
  cases lf with
  | true => exact refRight_leaf es ks ki a1 a2 a3 c1 c2 c3 w h1 hl1 hl2 hl3
  | false => exact refRight_inner es ks ki a1 a2 a3 c1 c2 c3 w h2 h3 hl1 hl2 hl3
end Go.Proofs.YtlobelfnjabajaaDoor

/- nodes: first, Find, and the document's -/
namespace Go.Proofs.YtlobelfnjabajaaDoor
open Go.RowKit
set_option linter.unusedVariables false
set_option linter.unusedSimpArgs false

theorem geq_less (a b : ByteArray) (B : Bool) (h : (!Nd.less a b) = B) : (Go.Op.bytesLess b.toList a.toList || b.toList == a.toList) = B := by rw [← h]; exact Nd.bytesLess_or _ _
theorem geq_less2 (a b : ByteArray) (B : Bool) (h : (!Nd.less a b) = B) : (Go.Op.bytesLess b.toList a.toList || a.toList == b.toList) = B := by
  rw [← geq_less a b B h]
  congr 1
  rw [Bool.eq_iff_iff, beq_iff_eq, beq_iff_eq]
  exact ⟨Eq.symm, Eq.symm⟩
set_option maxRecDepth 100000 in
theorem findEnt_is (e : Nd.Ent) (key : ByteArray) (kb : Nat) (B : Bool) (hB : (!Nd.less e.key key) = B) (w : World) (hk : w.cell? ⟨kb, 0, none⟩ = some (.string key)) :
    Calls Tryd.prog 61 #[.agg #[.string e.key, .string e.value, .int .i64 e.chain, .int .i64 e.size], .pointer (some ⟨kb, 0, none⟩)] w fun r w' => r = .returned (.bool B) ∧ Below w.heap.size w w' := by
  have hg1 : Go.Op.bytesLess e.key.toList key.toList = !B := by rw [← hB]; simp [Nd.less]
  have hlt : kb < w.heap.size := World.block_lt_of_cell? w _ hk
  have hne1 : ¬ kb = w.heap.size := Nat.ne_of_lt hlt
  have hne2 : ¬ w.heap.size = kb := Nat.ne_of_gt hlt
  clear hB
  cases B with
  | true =>
    rw [Bool.not_true] at hg1
    go_enter Tryd.func61, Tryd.ntmps61
    go_wp2
    go_ret
    exact ⟨rfl, by go_grown⟩
  | false =>
    rw [Bool.not_false] at hg1
    go_enter Tryd.func61, Tryd.ntmps61
    go_wp2
    go_ret
    exact ⟨rfl, by go_grown⟩
set_option maxRecDepth 100000 in
theorem findKey_is (s : ByteArray) (key : ByteArray) (kb : Nat) (B : Bool) (hB : Nd.less key s = B) (w : World) (hk : w.cell? ⟨kb, 0, none⟩ = some (.string key)) :
    Calls Tryd.prog 63 #[.string s, .pointer (some ⟨kb, 0, none⟩)] w fun r w' => r = .returned (.bool B) ∧ w = w' := by
  have hg1 : (!Go.Op.bytesLess s.toList key.toList && !s.toList == key.toList) = B := by
    rw [← hB, ← Bool.not_or, show (Go.Op.bytesLess s.toList key.toList || s.toList == key.toList) = !Nd.less key s from Nd.bytesLess_or _ _, Bool.not_not]
  clear hB
  go_enter Tryd.func63, Tryd.ntmps63
  go_wp2
  go_ret
  exact ⟨rfl, rfl⟩
theorem noneK_yes {α : Type} {p : α → Bool} {l : List α} {k : Nat} {x : α} (h : noneK p l k = true) (hx : l[k]? = some x) (hp : p x = false) : noneK p l (k + 1) = true := by rw [noneK, h, hx]; simp [hp]
set_option maxRecDepth 100000 in
set_option maxHeartbeats 2000000 in
theorem firstEnt_any (es : List Nd.Ent) (a1 : Option Addr) (c1 : Nat) (key : ByteArray) (kb : Nat) (w : World) (h1 : RowAt eEnt w (.slice a1 es.length c1) es) (hk : w.cell? ⟨kb, 0, none⟩ = some (.string key)) :
    Calls Tryd.prog 60 #[.slice a1 es.length c1, .func (.func 61) #[] #[.pointer (some ⟨kb, 0, none⟩)]] w fun e w' => e = .returned (.int .i64 ((leafAt es key : Nat) : Int)) ∧ Below w.heap.size w w' := by
  have H1 := Lib.hid h1
  have HK := Lib.hid hk
  have hl1 : es.length ≤ 9223372036854775807 := by
    obtain ⟨a', c', e, q1, q2, _⟩ := h1
    unfold maxLen at q2
    omega
  have hkl : kb < w.heap.size := World.block_lt_of_cell? w _ hk
  have HKL := Lib.hid hkl
  clear h1 hk hkl
  go_enter Tryd.func60, Tryd.ntmps60
  go_wp2
  go_loopw [9] (fun i wr => ∃ k : Nat, k ≤ es.length ∧ i = .int .i64 k ∧ noneK (fun e : Nd.Ent => !Nd.less e.key key) es k = true ∧ Below w.heap.size w wr) (fun i _ => es.length - (intOf i).toNat)
  case atStart => exact ⟨0, by omega, rfl, rfl, Below.refl _ _⟩
  case round =>
    obtain ⟨k, hk, rfl, hnk, hbr⟩ := hrel
    have HNK := Lib.hid hnk
    have HBR := Lib.hid hbr
    clear hnk
    by_cases hlt : k < es.length
    · obtain ⟨x, hx⟩ := getElem?_some_of_lt hlt
      obtain ⟨b1, o1, rfl, e0, e1, e2, e3⟩ := ent_cells (H1.out.below HBR.out) hx
      have hlt1 : (k : Int) < (es.length : Int) := by omega
      have HX := Lib.hid hx
      clear hx
      cases hb : (!Nd.less x.key key) with
      | true =>
        have HB := Lib.hid hb
        have HF := Lib.hid (show leafAt es key = k from find_at HNK.out HX.out hb)
        clear hb
        go_wp2_with (go_at_call 61; (refine (findEnt_is x key kb true HB.out _ ((HBR.out.alloc HBR.out.size _).cell HKL.out |>.trans HK.out)).mono ?_); (rintro e w1 ⟨rfl, hb1⟩); (have HB1 := Lib.hid (below_step (HBR.out.alloc HBR.out.size _) hb1)); (clear hb1))
        go_ret
        exact ⟨by rw [HF.out]; rfl, HB1.out⟩
      | false =>
        have HB := Lib.hid hb
        have HN1 := Lib.hid (noneK_yes HNK.out HX.out hb)
        clear hb
        go_wp2_with (go_at_call 61; (refine (findEnt_is x key kb false HB.out _ ((HBR.out.alloc HBR.out.size _).cell HKL.out |>.trans HK.out)).mono ?_); (rintro e w1 ⟨rfl, hb1⟩); (have HB1 := Lib.hid (below_step (HBR.out.alloc HBR.out.size _) hb1)); (clear hb1))
        go_roundw
        case rel => exact ⟨k + 1, by omega, by go_num, HN1.out, HB1.out⟩
        case measure => simp [intOf]; omega
    · have hkk : k = es.length := by omega
      subst hkk
      have HF := Lib.hid (show leafAt es key = es.length from find_none HNK.out)
      go_wp2_with fail
      go_ret
      exact ⟨by rw [HF.out]; rfl, HBR.out⟩
set_option maxRecDepth 100000 in
set_option maxHeartbeats 2000000 in
theorem firstStr_any (es : List ByteArray) (a1 : Option Addr) (c1 : Nat) (key : ByteArray) (kb : Nat) (w : World) (h1 : RowAt eStr w (.slice a1 es.length c1) es) (hk : w.cell? ⟨kb, 0, none⟩ = some (.string key)) :
    Calls Tryd.prog 62 #[.slice a1 es.length c1, .func (.func 63) #[] #[.pointer (some ⟨kb, 0, none⟩)]] w fun e w' => e = .returned (.int .i64 ((keyAt es key : Nat) : Int)) ∧ Below w.heap.size w w' := by
  have H1 := Lib.hid h1
  have HK := Lib.hid hk
  have hl1 : es.length ≤ 9223372036854775807 := by
    obtain ⟨a', c', e, q1, q2, _⟩ := h1
    unfold maxLen at q2
    omega
  have hkl : kb < w.heap.size := World.block_lt_of_cell? w _ hk
  have HKL := Lib.hid hkl
  clear h1 hk hkl
  go_enter Tryd.func62, Tryd.ntmps62
  go_wp2
  go_loopw [9] (fun i wr => ∃ k : Nat, k ≤ es.length ∧ i = .int .i64 k ∧ noneK (fun e : ByteArray => Nd.less key e) es k = true ∧ Below w.heap.size w wr) (fun i _ => es.length - (intOf i).toNat)
  case atStart => exact ⟨0, by omega, rfl, rfl, Below.refl _ _⟩
  case round =>
    obtain ⟨k, hk, rfl, hnk, hbr⟩ := hrel
    have HNK := Lib.hid hnk
    have HBR := Lib.hid hbr
    clear hnk
    by_cases hlt : k < es.length
    · obtain ⟨x, hx⟩ := getElem?_some_of_lt hlt
      obtain ⟨b1, o1, rfl, e0⟩ := str_cell (H1.out.below HBR.out) hx
      have hlt1 : (k : Int) < (es.length : Int) := by omega
      have HX := Lib.hid hx
      have HCK := Lib.hid ((HBR.out.cell HKL.out).trans HK.out)
      have hkc := HCK.out
      clear hx
      cases hb : (Nd.less key x) with
      | true =>
        have HB := Lib.hid hb
        have HF := Lib.hid (show keyAt es key = k from find_at HNK.out HX.out hb)
        clear hb
        go_wp2_with (go_at_call 63; (refine (findKey_is x key kb true HB.out _ HCK.out).mono ?_); (rintro e w1 ⟨rfl, rfl⟩))
        go_ret
        exact ⟨by rw [HF.out]; rfl, HBR.out⟩
      | false =>
        have HB := Lib.hid hb
        have HN1 := Lib.hid (noneK_yes HNK.out HX.out hb)
        clear hb
        go_wp2_with (go_at_call 63; (refine (findKey_is x key kb false HB.out _ HCK.out).mono ?_); (rintro e w1 ⟨rfl, rfl⟩))
        go_roundw
        case rel => exact ⟨k + 1, by omega, by go_num, HN1.out, HBR.out⟩
        case measure => simp [intOf]; omega
    · have hkk : k = es.length := by omega
      subst hkk
      have HF := Lib.hid (show keyAt es key = es.length from find_none HNK.out)
      go_wp2_with fail
      go_ret
      exact ⟨by rw [HF.out]; rfl, HBR.out⟩
end Go.Proofs.YtlobelfnjabajaaDoor

/- nodes: Find, and the document's -/
namespace Go.Proofs.YtlobelfnjabajaaDoor
open Go.RowKit
set_option linter.unusedVariables false
set_option linter.unusedSimpArgs false

theorem firstEnt_is (es : List Nd.Ent) (p : Nat) (a1 : Option Addr) (c1 : Nat) (key : ByteArray) (hp : leafAt es key = p) (kb : Nat) (w : World) (h1 : RowAt eEnt w (.slice a1 es.length c1) es) (hk : w.cell? ⟨kb, 0, none⟩ = some (.string key)) :
    Calls Tryd.prog 60 #[.slice a1 es.length c1, .func (.func 61) #[] #[.pointer (some ⟨kb, 0, none⟩)]] w fun e w' => e = .returned (.int .i64 (p : Int)) ∧ Below w.heap.size w w' := by subst hp; exact firstEnt_any es a1 c1 key kb w h1 hk
theorem firstStr_is (es : List ByteArray) (p : Nat) (a1 : Option Addr) (c1 : Nat) (key : ByteArray) (hp : keyAt es key = p) (kb : Nat) (w : World) (h1 : RowAt eStr w (.slice a1 es.length c1) es) (hk : w.cell? ⟨kb, 0, none⟩ = some (.string key)) :
    Calls Tryd.prog 62 #[.slice a1 es.length c1, .func (.func 63) #[] #[.pointer (some ⟨kb, 0, none⟩)]] w fun e w' => e = .returned (.int .i64 (p : Int)) ∧ Below w.heap.size w w' := by subst hp; exact firstStr_any es a1 c1 key kb w h1 hk
theorem leafIs_some {es : List Nd.Ent} {key : ByteArray} {p : Nat} {e : Nd.Ent} (hp : leafAt es key = p) (he : es[p]? = some e) : leafIs es key = (e.key.toList == key.toList) := by unfold leafIs; rw [hp, he]
theorem leafIs_none {es : List Nd.Ent} {key : ByteArray} {p : Nat} (hp : leafAt es key = p) (hl : ¬ p < es.length) : leafIs es key = false := by unfold leafIs; rw [hp, List.getElem?_eq_none (by omega)]
set_option maxRecDepth 100000 in
set_option maxHeartbeats 2000000 in
theorem nodeFind_leaf (es : List Nd.Ent) (key : ByteArray) (p : Nat) (B : Bool) (hp : leafAt es key = p) (hB : leafIs es key = B) (a1 a2 a3 : Option Addr) (c1 n2 n3 c2 c3 : Nat) (w : World) (h1 : RowAt eEnt w (.slice a1 es.length c1) es) :
    Calls Tryd.prog 23 #[.agg #[.bool true, .slice a1 es.length c1, .slice a2 n2 c2, .slice a3 n3 c3], .string key] w fun e w' => e = .returned (.tuple #[.int .i64 (p : Int), .bool B]) ∧ Below w.heap.size w w' := by
  have H1 := Lib.hid h1
  have HP := Lib.hid hp
  have HBB := Lib.hid hB
  have hple : p ≤ es.length := by rw [← hp]; exact leafAt_le es key
  have hl1 : es.length ≤ 9223372036854775807 := by
    obtain ⟨a', c', e, q1, q2, _⟩ := h1
    unfold maxLen at q2
    omega
  clear h1 hp hB
  go_enter Tryd.func23, Tryd.ntmps23
  go_upto_region 1 with fail
  refine wp_name fun W hW => ?_
  have HX := Lib.hid (show BoxAt W w.heap.size [.bool true, .slice a1 es.length c1, .slice a2 n2 c2, .slice a3 n3 c3] by rw [hW]; exact (BoxAt.new w [_, _, _, _] _).alloc _)
  have HK := Lib.hid (show BoxAt W (w.heap.size + 1) [.string key] by rw [hW]; exact BoxAt.newAt _ _ (by simp) [_] _)
  have HB := Lib.hid (show Below w.heap.size w W by rw [hW]; go_grown)
  clear hW
  obtain ⟨m0, m1, m2, m3⟩ := HX.out.four
  have k0 := HK.out.at 0 _ rfl
  go_upto_region 3 with (go_at_call 60; (refine (firstEnt_is es p a1 c1 key HP.out (w.heap.size + 1) _ (H1.out.below HB.out) k0).mono ?_); (rintro e w1 ⟨rfl, hb1⟩); (have HB1 := Lib.hid (below_step HB.out hb1)); (have HX1 := Lib.hid (HX.out.below hb1)); (have HK1 := Lib.hid (HK.out.below hb1)); (clear hb1 m0 m1 m2 m3 k0); (obtain ⟨m0, m1, m2, m3⟩ := HX1.out.four); (have k0 := HK1.out.at 0 _ rfl))
  have p0 := Later.cell m0
  have p1 := Later.cell m1
  have p2 := Later.cell m2
  have p3 := Later.cell m3
  have q0 := Later.cell k0
  by_cases hlt : p < es.length
  · obtain ⟨x, hx⟩ := getElem?_some_of_lt hlt
    obtain ⟨b1, o1, rfl, e0, e1, e2, e3⟩ := ent_cells (H1.out.below HB1.out) hx
    have hlt1 : (p : Int) < (es.length : Int) := by omega
    have r0 := Later.cell e0
    have hbb : (x.key.toList == key.toList) = B := by rw [← HBB.out]; exact (leafIs_some HP.out hx).symm
    clear hx
    refine wp_region_later (by kernel_rfl) (by kernel_rfl) ?_
    repeat (first | go_big_quiet_step (fail) | quiet_step (fail))
    refine wpQuiet_nil ?_
    intro xw
    have HXW := Lib.hid xw.below
    go_wp2_with fail
    go_ret2
    exact ⟨rfl, below_step HB1.out HXW.out⟩
  · have hge : (es.length : Int) ≤ (p : Int) := by omega
    have HF := Lib.hid (show B = false by rw [← HBB.out]; exact leafIs_none HP.out hlt)
    have hbf := HF.out
    subst hbf
    refine wp_region_later (by kernel_rfl) (by kernel_rfl) ?_
    repeat (first | go_big_quiet_step (fail) | quiet_step (fail))
    refine wpQuiet_nil ?_
    intro xw
    have HXW := Lib.hid xw.below
    go_wp2_with fail
    go_ret2
    exact ⟨rfl, below_step HB1.out HXW.out⟩
set_option maxRecDepth 100000 in
set_option maxHeartbeats 2000000 in
theorem nodeFind_inner (ks : List ByteArray) (key : ByteArray) (p : Nat) (hp : keyAt ks key = p) (a1 a2 a3 : Option Addr) (n1 c1 c2 n3 c3 : Nat) (w : World) (h2 : RowAt eStr w (.slice a2 ks.length c2) ks) :
    Calls Tryd.prog 23 #[.agg #[.bool false, .slice a1 n1 c1, .slice a2 ks.length c2, .slice a3 n3 c3], .string key] w fun e w' => e = .returned (.tuple #[.int .i64 (p : Int), .bool false]) ∧ Below w.heap.size w w' := by
  have H2 := Lib.hid h2
  have HP := Lib.hid hp
  clear h2 hp
  go_enter Tryd.func23, Tryd.ntmps23
  go_upto_region 1 with fail
  refine wp_name fun W hW => ?_
  have HX := Lib.hid (show BoxAt W w.heap.size [.bool false, .slice a1 n1 c1, .slice a2 ks.length c2, .slice a3 n3 c3] by rw [hW]; exact (BoxAt.new w [_, _, _, _] _).alloc _)
  have HK := Lib.hid (show BoxAt W (w.heap.size + 1) [.string key] by rw [hW]; exact BoxAt.newAt _ _ (by simp) [_] _)
  have HB := Lib.hid (show Below w.heap.size w W by rw [hW]; go_grown)
  clear hW
  obtain ⟨m0, m1, m2, m3⟩ := HX.out.four
  have k0 := HK.out.at 0 _ rfl
  go_wp2_with (go_at_call 62; (refine (firstStr_is ks p a2 c2 key HP.out (w.heap.size + 1) _ (H2.out.below HB.out) k0).mono ?_); (rintro e w1 ⟨rfl, hb1⟩); (have HB1 := Lib.hid (below_step HB.out hb1)); (clear hb1))
  go_ret2
  exact ⟨rfl, HB1.out⟩
set_option maxRecDepth 100000 in
set_option maxHeartbeats 2000000 in
theorem refFind_leaf (es : List Nd.Ent) (key : ByteArray) (p : Nat) (B : Bool) (hp : leafAt es key = p) (hB : leafIs es key = B) (a1 a2 a3 : Option Addr) (c1 n2 n3 c2 c3 : Nat) (w : World) (h1 : RowAt eEnt w (.slice a1 es.length c1) es) :
    Calls Tryd.prog 25 #[.agg #[.bool true, .slice a1 es.length c1, .slice a2 n2 c2, .slice a3 n3 c3], .string key] w fun e w' => e = .returned (.tuple #[.int .i64 (p : Int), .bool B]) ∧ Below w.heap.size w w' := by
  have H1 := Lib.hid h1
  have HP := Lib.hid hp
  have HBB := Lib.hid hB
  have hple : p ≤ es.length := by rw [← hp]; exact leafAt_le es key
  have hl1 : es.length ≤ 9223372036854775807 := by
    obtain ⟨a', c', e, q1, q2, _⟩ := h1
    unfold maxLen at q2
    omega
  clear h1 hp hB
  go_enter Tryd.func25, Tryd.ntmps25
  go_upto_region 1 with fail
  refine wp_name fun W hW => ?_
  have HX := Lib.hid (show BoxAt W w.heap.size [.bool true, .slice a1 es.length c1, .slice a2 n2 c2, .slice a3 n3 c3] by rw [hW]; exact BoxAt.new w [_, _, _, _] _)
  have HB := Lib.hid (show Below w.heap.size w W by rw [hW]; go_grown)
  clear hW
  obtain ⟨m0, m1, m2, m3⟩ := HX.out.four
  go_wp2_with fail
  go_loopw [6] (fun i wr => ∃ k : Nat, k ≤ es.length ∧ i = .int .i64 k ∧ noneK (fun e : Nd.Ent => !Nd.less e.key key) es k = true ∧ BoxAt wr w.heap.size [.bool true, .slice a1 es.length c1, .slice a2 n2 c2, .slice a3 n3 c3] ∧ Below w.heap.size w wr) (fun i _ => es.length - (intOf i).toNat)
  case atStart => exact ⟨0, by omega, rfl, rfl, HX.out, HB.out⟩
  case round =>
    obtain ⟨k, hk, rfl, hnk, hbx, hbr⟩ := hrel
    have HNK := Lib.hid hnk
    have HBX := Lib.hid hbx
    have HBR := Lib.hid hbr
    clear m0 m1 m2 m3 hnk
    obtain ⟨m0, m1, m2, m3⟩ := hbx.four
    clear hbx
    by_cases hlt : k < es.length
    · obtain ⟨x, hx⟩ := getElem?_some_of_lt hlt
      obtain ⟨b1, o1, rfl, e0, e1, e2, e3⟩ := ent_cells (H1.out.below HBR.out) hx
      have hlt1 : (k : Int) < (es.length : Int) := by omega
      have HE := Lib.hid hx
      clear hx
      cases hb : Nd.less x.key key with
      | true =>
        have hle : Go.Op.bytesLess x.key.toList key.toList = true := hb
        have HN1 := Lib.hid (noneK_yes HNK.out HE.out (show (fun e : Nd.Ent => !Nd.less e.key key) x = false by simp [hb]))
        clear hb
        go_wp2_with fail
        go_roundw
        case rel => exact ⟨k + 1, by omega, by go_num, HN1.out, HBX.out, HBR.out⟩
        case measure => simp [intOf]; omega
      | false =>
        have hle : Go.Op.bytesLess x.key.toList key.toList = false := hb
        have hkp : p = k := by rw [← HP.out]; exact find_at HNK.out HE.out (by simp [hb])
        have hbb : (x.key.toList == key.toList) = B := by rw [← HBB.out]; exact (leafIs_some (HP.out.trans hkp) HE.out).symm
        clear hb
        subst hkp
        go_upto_region 5 with fail
        have p0 := Later.cell m0
        have p1 := Later.cell m1
        have p2 := Later.cell m2
        have p3 := Later.cell m3
        have r0 := Later.cell e0
        refine wp_region_later (by kernel_rfl) (by kernel_rfl) ?_
        repeat (first | go_big_quiet_step (fail) | quiet_step (fail))
        refine wpQuiet_nil ?_
        intro xw
        have HXW := Lib.hid xw.below
        go_wp2_with fail
        go_ret2
        exact ⟨rfl, below_step HBR.out HXW.out⟩
    · have hkk : k = es.length := by omega
      have hge : (es.length : Int) ≤ (k : Int) := by omega
      have hkp : p = k := by rw [← HP.out, hkk]; exact find_none (by rw [← hkk]; exact HNK.out)
      have hbf : B = false := by rw [← HBB.out]; exact leafIs_none HP.out (by omega)
      subst hkp hbf
      go_upto_region 5 with fail
      have p0 := Later.cell m0
      have p1 := Later.cell m1
      have p2 := Later.cell m2
      have p3 := Later.cell m3
      refine wp_region_later (by kernel_rfl) (by kernel_rfl) ?_
      repeat (first | go_big_quiet_step (fail) | quiet_step (fail))
      refine wpQuiet_nil ?_
      intro xw
      have HXW := Lib.hid xw.below
      go_wp2_with fail
      go_ret2
      exact ⟨rfl, below_step HBR.out HXW.out⟩
set_option maxRecDepth 100000 in
set_option maxHeartbeats 2000000 in
theorem refFind_inner (ks : List ByteArray) (key : ByteArray) (p : Nat) (hp : keyAt ks key = p) (a1 a2 a3 : Option Addr) (n1 c1 c2 n3 c3 : Nat) (w : World) (h2 : RowAt eStr w (.slice a2 ks.length c2) ks) :
    Calls Tryd.prog 25 #[.agg #[.bool false, .slice a1 n1 c1, .slice a2 ks.length c2, .slice a3 n3 c3], .string key] w fun e w' => e = .returned (.tuple #[.int .i64 (p : Int), .bool false]) ∧ Below w.heap.size w w' := by
  have H2 := Lib.hid h2
  have HP := Lib.hid hp
  have hl1 : ks.length ≤ 9223372036854775807 := by
    obtain ⟨a', c', e, q1, q2, _⟩ := h2
    unfold maxLen at q2
    omega
  clear h2 hp
  go_enter Tryd.func25, Tryd.ntmps25
  go_upto_region 1 with fail
  refine wp_name fun W hW => ?_
  have HX := Lib.hid (show BoxAt W w.heap.size [.bool false, .slice a1 n1 c1, .slice a2 ks.length c2, .slice a3 n3 c3] by rw [hW]; exact BoxAt.new w [_, _, _, _] _)
  have HB := Lib.hid (show Below w.heap.size w W by rw [hW]; go_grown)
  clear hW
  obtain ⟨m0, m1, m2, m3⟩ := HX.out.four
  go_wp2_with fail
  go_loopw [6] (fun i wr => ∃ k : Nat, k ≤ ks.length ∧ i = .int .i64 k ∧ noneK (fun e : ByteArray => Nd.less key e) ks k = true ∧ BoxAt wr w.heap.size [.bool false, .slice a1 n1 c1, .slice a2 ks.length c2, .slice a3 n3 c3] ∧ Below w.heap.size w wr) (fun i _ => ks.length - (intOf i).toNat)
  case atStart => exact ⟨0, by omega, rfl, rfl, HX.out, HB.out⟩
  case round =>
    obtain ⟨k, hk, rfl, hnk, hbx, hbr⟩ := hrel
    have HNK := Lib.hid hnk
    have HBX := Lib.hid hbx
    have HBR := Lib.hid hbr
    clear m0 m1 m2 m3 hnk
    obtain ⟨m0, m1, m2, m3⟩ := hbx.four
    clear hbx
    by_cases hlt : k < ks.length
    · obtain ⟨x, hx⟩ := getElem?_some_of_lt hlt
      obtain ⟨b1, o1, rfl, e0⟩ := str_cell (H2.out.below HBR.out) hx
      have hlt1 : (k : Int) < (ks.length : Int) := by omega
      have HE := Lib.hid hx
      clear hx
      have hle := Nd.leq_less x key
      cases hb : Nd.less key x with
      | true =>
        rw [hb] at hle
        simp only [Bool.not_true] at hle
        have hkp : p = k := by rw [← HP.out]; exact find_at HNK.out HE.out hb
        clear hb
        subst hkp
        go_wp2_with fail
        go_ret2
        exact ⟨rfl, HBR.out⟩
      | false =>
        rw [hb] at hle
        simp only [Bool.not_false] at hle
        have HN1 := Lib.hid (noneK_yes HNK.out HE.out hb)
        clear hb
        go_wp2_with fail
        go_roundw
        case rel => exact ⟨k + 1, by omega, by go_num, HN1.out, HBX.out, HBR.out⟩
        case measure => simp [intOf]; omega
    · have hkk : k = ks.length := by omega
      have hge : (ks.length : Int) ≤ (k : Int) := by omega
      have hkp : p = k := by rw [← HP.out, hkk]; exact find_none (by rw [← hkk]; exact HNK.out)
      subst hkp
      go_wp2_with fail
      go_ret2
      exact ⟨rfl, HBR.out⟩
/-- where a key belongs, and whether it is there -/
def findT (lf : Bool) (es : List Nd.Ent) (ks : List ByteArray) (key : ByteArray) : Nat × Bool := if lf = true then (leafAt es key, leafIs es key) else (keyAt ks key, false)
theorem nodeFind_is (lf : Bool) (es : List Nd.Ent) (ks : List ByteArray) (key : ByteArray) (p : Nat) (B : Bool) (hp : findT lf es ks key = (p, B)) (a1 a2 a3 : Option Addr) (c1 c2 n3 c3 : Nat) (w : World) (h1 : RowAt eEnt w (.slice a1 es.length c1) es) (h2 : RowAt eStr w (.slice a2 ks.length c2) ks) :
    Calls Tryd.prog 23 #[.agg #[.bool lf, .slice a1 es.length c1, .slice a2 ks.length c2, .slice a3 n3 c3], .string key] w fun e w' => e = .returned (.tuple #[.int .i64 (p : Int), .bool B]) ∧ Below w.heap.size w w' := by
  cases lf with
  | true =>
    obtain ⟨e1, e2⟩ := Prod.mk.inj hp
    exact nodeFind_leaf es key p B e1 e2 a1 a2 a3 c1 _ n3 c2 c3 w h1
  | false =>
    obtain ⟨e1, e2⟩ := Prod.mk.inj hp
    subst e2
    exact nodeFind_inner ks key p e1 a1 a2 a3 _ c1 c2 n3 c3 w h2
theorem refFind_is (lf : Bool) (es : List Nd.Ent) (ks : List ByteArray) (key : ByteArray) (p : Nat) (B : Bool) (hp : findT lf es ks key = (p, B)) (a1 a2 a3 : Option Addr) (c1 c2 n3 c3 : Nat) (w : World) (h1 : RowAt eEnt w (.slice a1 es.length c1) es) (h2 : RowAt eStr w (.slice a2 ks.length c2) ks) :
    Calls Tryd.prog 25 #[.agg #[.bool lf, .slice a1 es.length c1, .slice a2 ks.length c2, .slice a3 n3 c3], .string key] w fun e w' => e = .returned (.tuple #[.int .i64 (p : Int), .bool B]) ∧ Below w.heap.size w w' := by
  cases lf with
  | true =>
    obtain ⟨e1, e2⟩ := Prod.mk.inj hp
    exact refFind_leaf es key p B e1 e2 a1 a2 a3 c1 _ n3 c2 c3 w h1
  | false =>
    obtain ⟨e1, e2⟩ := Prod.mk.inj hp
    subst e2
    exact refFind_inner ks key p e1 a1 a2 a3 _ c1 c2 n3 c3 w h2
end Go.Proofs.YtlobelfnjabajaaDoor
