/- superblocks: the document's Torn; awake -/
import Derived.Test.YtaofhdoieffhhaaDoorRefSuper3
import Derived.Test.YtaofhdoieffhhaaDoorTells06
namespace Go.Proofs.YtaofhdoieffhhaaDoor
open Go.RowKit
set_option linter.unusedVariables false
set_option linter.unusedSimpArgs false

theorem torn_set {old b : List UInt8} {j : Nat} {x : UInt8} (hl : old.length = b.length) (hx : b[j]? = some x) : (b.take j ++ old.drop j).set j x = b.take (j + 1) ++ old.drop (j + 1) := by
  have hj : j < b.length := (List.getElem?_eq_some_iff.1 hx).1
  apply List.ext_getElem?
  intro i
  rw [List.getElem?_set]
  by_cases h : j = i
  · subst h
    rw [if_pos rfl, if_pos (by simp; omega)]
    rw [List.getElem?_append_left (by simp; omega), List.getElem?_take, if_pos (by omega), hx]
  · rw [if_neg h]
    by_cases h2 : i < j
    · rw [List.getElem?_append_left (by simp; omega), List.getElem?_append_left (by simp; omega), List.getElem?_take, List.getElem?_take, if_pos h2, if_pos (by omega)]
    · rw [List.getElem?_append_right (by simp; omega), List.getElem?_append_right (by simp; omega), List.getElem?_drop, List.getElem?_drop]
      congr 1
      simp
      omega
set_option maxRecDepth 100000 in
set_option maxHeartbeats 4000000 in
theorem torn_any (v1 v2 : Value) (old b : List UInt8) (cut : Int) (w : World) (h1 : BytesAt w v1 old) (h2 : BytesAt w v2 b) (hl : old.length = b.length) (hlen : b.length ≤ 1000000) :
    Calls Tryd.prog 30 #[v1, v2, .int .i64 cut] w fun e w' => (∃ a c, e = .returned (.slice a (Su.tornL old b cut.toNat).length c) ∧ Own w' w.heap.size (.slice a (Su.tornL old b cut.toNat).length c) (Su.tornL old b cut.toNat)) ∧ Below w.heap.size w w' := by
  have H1 := Lib.hid h1
  have H2 := Lib.hid h2
  obtain ⟨a2, c2, rfl, q1, q2, hc2⟩ := h2
  unfold maxLen at q2
  have HC2 := Lib.hid hc2
  have HL := Lib.hid hl
  clear h1 hc2 hl
  go_enter Tryd.func30, Tryd.ntmps30
  go_wp2_with (at_builtin; refine wpList_append_bytes rfl (.tmp 9) (.tmp 10) rfl w.heap.size _ [] rfl (Own.empty w _ (Nat.le_refl _)) _ old rfl (H1.out.alloc _) (by have := HL.out; simp; omega) (by simp) ?_)
  intro v3 w1 hown hgrow hnn
  have hb1 := ((Below.refl w.heap.size w).alloc (Nat.le_refl _) (.cells #[] 5)).grown hgrow (by simp) (by intro k hk; simp [Value.ownBlock] at hk; omega)
  have HO := Lib.hid hown
  clear hgrow hown
  rcases HO.out.row with ⟨rfl, _⟩ | ⟨g, cap, rfl, hg1, hg2, hg3, hg4⟩
  · simp at hnn
  unfold maxLen at hg4
  have HB1 := Lib.hid hb1
  have hs1 := hb1.size
  clear hnn hb1
  rw [HL.out] at HO hg3
  have hll : (old.length : Int) = (b.length : Int) := by have := HL.out; omega
  rw [HL.out]
  clear hll
  go_wp2_with fail
  go_loopw [8] (fun i wr => ∃ j : Nat, j ≤ b.length ∧ j ≤ cut.toNat ∧ i = .int .i64 j ∧ Own wr w.heap.size (.slice (some ⟨g, 0, none⟩) b.length cap) (b.take j ++ old.drop j) ∧ w1.grownBy wr (some g)) (fun i _ => b.length - (intOf i).toNat)
  case atStart => exact ⟨0, by omega, by omega, rfl, by simpa using HO.out, World.grownBy.refl _ _⟩
  case round =>
    obtain ⟨j, hj, hjc, rfl, ho', hgr⟩ := hrel
    have HO' := Lib.hid ho'
    have HGR := Lib.hid hgr
    have HLL := Lib.hid (show (b.take j ++ old.drop j).length = b.length by have := HL.out; simp; omega)
    have HBR := Lib.hid (HB1.out.grown hgr hs1 (fun k hk => by cases hk; exact hg1))
    clear ho' hgr
    by_cases hlt : j < b.length
    · by_cases hct : (j : Int) < cut
      · obtain ⟨x, hx⟩ := getElem?_some_of_lt hlt
        rcases HC2.out with hn | ⟨b2, o2, rfl, hc⟩
        · rw [hn] at hlt; simp at hlt
        have hcx := (HBR.out.cell (World.block_lt_of_cell? w _ (hc j x hx))).trans (hc j x hx)
        obtain ⟨y, hy⟩ := getElem?_some_of_lt (show j < (b.take j ++ old.drop j).length by rw [HLL.out]; exact hlt)
        have hcell := HO'.out.cell HLL.out.symm hy
        have hfree := HO'.out.free HLL.out.symm j
        have HW := Lib.hid (HO'.out.set (k := j) HLL.out.symm x)
        have HSET := Lib.hid (torn_set HL.out hx)
        clear hx hy hc
        have hl1 : (j : Int) < (b.length : Int) := by omega
        go_wp2
        go_roundw
        case rel => exact ⟨j + 1, by omega, by omega, by go_num, by rw [← HSET.out]; exact HW.out, grownBy_set HGR.out _ _⟩
        case measure => simp [intOf]; omega
      · have hT : Su.tornL old b cut.toNat = b.take j ++ old.drop j := by
          unfold Su.tornL
          rw [show cut.toNat = j by omega]
        have HT := Lib.hid hT
        clear hT
        have hl1 : (j : Int) < (b.length : Int) := by omega
        go_wp2
        go_ret
        rw [HT.out]
        exact ⟨⟨_, cap, by rw [HLL.out]; rfl, by rw [HLL.out]; exact HO'.out⟩, HBR.out⟩
    · have hT : Su.tornL old b cut.toNat = b.take j ++ old.drop j := by
        unfold Su.tornL
        rw [List.take_of_length_le (by omega), List.take_of_length_le (by omega), List.drop_of_length_le (by have := HL.out; omega), List.drop_of_length_le (by have := HL.out; omega)]
      have HT := Lib.hid hT
      clear hT
      have hje : j = b.length := by omega
      have HJ := Lib.hid hje
      clear hje hj
      have hl2 : ¬ (j : Int) < (b.length : Int) := by omega
      go_wp2
      go_ret
      rw [HT.out]
      exact ⟨⟨_, cap, by rw [HLL.out]; rfl, by rw [HLL.out]; exact HO'.out⟩, HBR.out⟩

def awakeS : Su.Sup := ⟨5, 8, 256, 2, 3⟩
theorem awakeS_right : Su.right awakeS = true := by decide
theorem awakeS_choose : chooseT [] (Su.supSeal awakeS 1) = (awakeS, 1, 0) := by
  have h1 : Su.supOpen (Su.supSeal awakeS 1) 1 = some awakeS := Su.supOpen_seal awakeS_right (by decide) (by decide)
  have h2 : Su.supOpen [] 0 = none := by
    unfold Su.supOpen
    rw [if_neg (fun h => by have := (Pg.check_ok h.1.1).1; simp at this)]
  unfold chooseT Su.chooseL
  rw [h1, h2]
theorem awakeSealS (w : World) (A : Nat → Addr) {S : Nat → Prop} [Has S 1] [Has S 2] [Has S 5] (hs : SentsOn S w A) :
    Calls Tryd.prog 28 #[.agg #[.int .u64 5, .int .i64 8, .int .i64 256, .int .i64 2, .int .i64 3], .int .i64 1] w fun e w' => (∃ a c, e = .returned (.tuple #[.slice a (Su.supSeal awakeS 1).length c, .nilIface]) ∧ Own w' w.heap.size (.slice a (Su.supSeal awakeS 1).length c) (Su.supSeal awakeS 1)) ∧ Below w.heap.size w w' :=
  superSeal_ok awakeS 1 _ rfl w A hs awakeS_right (.inr rfl) (by decide)
theorem awakeChoose (a : Option Addr) (c : Nat) (L : List UInt8) (hL : Su.supSeal awakeS 1 = L) (w : World) (A : Nat → Addr) {S : Nat → Prop} [Has S 1] [Has S 2] [Has S 5] (hs : SentsOn S w A) (hb : BytesAt w (.slice a L.length c) L) :
    Calls Tryd.prog 29 #[.slice none 0 0, .slice a L.length c] w fun e w' => e = .returned (.tuple #[.agg #[.int .u64 5, .int .i64 8, .int .i64 256, .int .i64 2, .int .i64 3], .int .i64 1, .nilIface]) ∧ Below w.heap.size w w' := by
  subst hL
  refine (choose_any none a 0 c [] _ w A hs (BytesAt.nil w) hb).mono fun e w' ⟨⟨ev, lp, he, hE, _, _⟩, hb⟩ => ⟨?_, hb⟩
  rw [awakeS_choose] at he hE
  obtain ⟨rfl, _⟩ := hE.isNil
  exact he
theorem place5 (w : World) : Calls Tryd.prog 33 #[.int .u64 5] w fun e w' => e = .returned (.int .i64 1) ∧ w = w' := superPlace_any 5 (by decide) w
set_option maxRecDepth 100000 in
set_option maxHeartbeats 2000000 in
theorem superAwake_any (w : World) (A : Nat → Addr) {S : Nat → Prop} [Has S 1] [Has S 2] [Has S 5] (hs : SentsOn S w A) : Calls Tryd.prog 26 #[] w fun e w' => e = .returned (.bool true) ∧ Below w.heap.size w w' := by
  have HS := Lib.hid hs
  clear hs
  go_enter Tryd.func26, Tryd.ntmps26
  go_upto_region 2 with fail
  refine wp_name fun W0 hW0 => ?_
  have HX0 := Lib.hid (show BoxAt W0 w.heap.size [.int .u64 5, .int .i64 8, .int .i64 256, .int .i64 2, .int .i64 3] by rw [hW0]; exact BoxAt.new w [_, _, _, _, _] _)
  have HB0 := Lib.hid (show Below w.heap.size w W0 by rw [hW0]; go_grown)
  obtain ⟨m0, m1, m2, m3, m4⟩ := HX0.out.five
  clear hW0
  generalize hL : Su.supSeal awakeS 1 = L at *
  have HL := Lib.hid hL
  clear hL
  go_upto_region 3 with (go_at_call 28; (refine (awakeSealS _ A (HS.out.below HB0.out)).mono ?_); (rintro e w1 ⟨⟨a1, c1, rfl, ho1⟩, hb1⟩); (rw [HL.out] at ho1 ⊢); (have HO1 := Lib.hid ho1.bytes); (have HX1 := Lib.hid (HX0.out.below hb1)); (have HB1 := Lib.hid (below_step HB0.out hb1)); (clear ho1 hb1))
  go_upto_region 4 with (go_at_call 29; (refine (awakeChoose _ _ L HL.out _ A (HS.out.below HB1.out) HO1.out).mono ?_); (rintro e w2 ⟨rfl, hb2⟩); (have HX2 := Lib.hid (HX1.out.below hb2)); (have HB2 := Lib.hid (below_step HB1.out hb2)); (clear hb2))
  refine wp_name fun W hW => ?_
  have HX := Lib.hid (show BoxAt W w.heap.size [.int .u64 5, .int .i64 8, .int .i64 256, .int .i64 2, .int .i64 3] by rw [hW]; exact HX2.out.alloc _)
  have HY := Lib.hid (show BoxAt W w2.heap.size [.int .u64 5, .int .i64 8, .int .i64 256, .int .i64 2, .int .i64 3] by rw [hW]; exact BoxAt.new w2 [_, _, _, _, _] _)
  have HB := Lib.hid (show Below w.heap.size w W by rw [hW]; exact HB2.out.alloc HB2.out.size _)
  clear hW m0 m1 m2 m3 m4
  obtain ⟨m0, m1, m2, m3, m4⟩ := HX.out.five
  obtain ⟨n0, n1, n2, n3, n4⟩ := HY.out.five
  go_wp2_with (go_at_call 33; (refine (place5 _).mono ?_); (rintro e w3 ⟨rfl, rfl⟩))
  go_ret
  exact ⟨rfl, HB.out⟩
end Go.Proofs.YtaofhdoieffhhaaDoor
