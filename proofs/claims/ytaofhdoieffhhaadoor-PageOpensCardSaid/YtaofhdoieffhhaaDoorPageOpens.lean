/- pages: the walks of PageOpens -/
import Derived.Test.YtaofhdoieffhhaaDoorPagePlaces
namespace Go.Proofs.YtaofhdoieffhhaaDoor
open Go.RowKit
set_option linter.unusedVariables false
set_option linter.unusedSimpArgs false

theorem box4_grown {w w' : World} {g r : Nat} {v0 v1 v2 v3 : Value} (h : Box4 w r v0 v1 v2 v3) (hg : w.grownBy w' (some g)) (hne : g ≠ r) : Box4 w' r v0 v1 v2 v3 := by
  have hl := h.lt
  have e : w'.heap[r]? = w.heap[r]? := hg.block r hl (by simpa using fun e => hne e.symm)
  constructor
  · have := h.c0; simp only [World.cell?, e] at this ⊢; exact this
  · have := h.c1; simp only [World.cell?, e] at this ⊢; exact this
  · have := h.c2; simp only [World.cell?, e] at this ⊢; exact this
  · have := h.c3; simp only [World.cell?, e] at this ⊢; exact this
  · have := h.f0; simp only [World.frozen?, e] at this ⊢; exact this
  · have := h.f1; simp only [World.frozen?, e] at this ⊢; exact this
  · have := h.f2; simp only [World.frozen?, e] at this ⊢; exact this
  · have := h.f3; simp only [World.frozen?, e] at this ⊢; exact this

set_option maxRecDepth 100000 in
set_option maxHeartbeats 2000000 in
theorem pageOpens_walk (v : Value) (l : List UInt8) (w : World) (A : Nat → Addr) (hs : Sents w A) (hg : w.cell? ⟨9, 0, none⟩ = some errorTypeV) (hb : BytesAt w v l) (hlen : l.length ≤ 140737488351232) :
    Calls Tryd.prog 10 #[v] w fun e w' => e = .returned (.bool true) ∧ Below w.heap.size w w' := by
  have HS := Lib.hid hs
  have HB := Lib.hid hb
  have HG := Lib.hid hg
  have hlg : 9 < w.heap.size := World.block_lt_of_cell? w _ hg
  obtain ⟨p, k, X, hr⟩ : ∃ p k X, Pg.openL l = (p, k, X) := ⟨_, _, _, rfl⟩
  have HR := Lib.hid hr
  have hC := pageEq_self p
  obtain ⟨a, c, rfl, -, -, -⟩ := hb
  clear hs hg hr
  go_enter Tryd.func10, Tryd.ntmps10
  go_wp2_with (at_builtin; refine wpList_append_bytes rfl (.tmp 10) (.tmp 11) rfl w.heap.size _ [] rfl (Own.empty w _ (Nat.le_refl _)) _ l rfl (HB.out.alloc _) (by simp; omega) (by simp) ?_)
  intro v1 w1 hown hgrow hnn
  have hb1 := ((Below.refl w.heap.size w).alloc (Nat.le_refl _) (.cells #[] 5)).grown hgrow (by simp) (by intro k hk; simp [Value.ownBlock] at hk; omega)
  have HO := Lib.hid hown
  clear hgrow hown
  rcases HO.out.row with ⟨rfl, _⟩ | ⟨g, cap, rfl, hg1, hg2, hg3, hg4⟩
  · simp at hnn
  unfold maxLen at hg4
  have HB1 := Lib.hid hb1
  have hs1 := hb1.size
  clear hnn hb1
  go_upto_region 3 with (go_at_call 15; (refine (open_is (some ⟨g, 0, none⟩) cap l p k X HR.out _ A (HS.out.below HB1.out) HO.out.bytes).mono ?_); (rintro e w2 ⟨⟨a1, c1, ev, lp, rfl, ho1, hE1, hp1, hl1⟩, hb2⟩); (have HO1 := Lib.hid ho1); (have HE1 := Lib.hid hE1); (have HP1 := Lib.hid hp1); (have HB2 := Lib.hid hb2); (have hs2 := hb2.size); (clear ho1 hE1 hp1 hb2))
  refine wp_name fun W hW => ?_
  have hX1 : Box4 W w2.heap.size (.int .i64 p.kind) (.int .i64 p.id) (.int .u64 (p.gen : Int)) (.slice a1 p.body.length c1) := by rw [hW]; exact Box4.new _ _ _ _ _ _
  have hbW : Below w2.heap.size w2 W := by rw [hW]; go_grown
  have HX1 := Lib.hid hX1
  have HBW := Lib.hid (HB1.out.trans ((HB2.out.trans (hbW.mono hs2)).mono hs1))
  replace HO1 := Lib.hid (HO1.out.below hbW (Nat.le_refl _))
  replace HE1 := Lib.hid (HE1.out.below' hbW)
  have HOW := Lib.hid ((HO.out.below HB2.out (Nat.le_refl _)).below hbW (Nat.le_refl _))
  have hs3 := HBW.out.size
  clear hX1 hbW hW
  go_wp2_with fail
  go_loopw [6] (fun i wr => ∃ j : Nat, j ≤ l.length ∧ i = .int .i64 j ∧ ∃ l', l'.length = l.length ∧ Own wr w.heap.size (.slice (some ⟨g, 0, none⟩) l.length cap) l' ∧ W.grownBy wr (some g)) (fun i _ => l.length - (intOf i).toNat)
  case atStart => exact ⟨0, by omega, rfl, l, rfl, HOW.out, World.grownBy.refl _ _⟩
  case round =>
    obtain ⟨j, hj, rfl, l', hl', ho', hgr⟩ := hrel
    have HO' := Lib.hid ho'
    have HGR := Lib.hid hgr
    have HL' := Lib.hid hl'
    clear ho' hgr hl'
    by_cases hlt : j < l.length
    · obtain ⟨y, hy⟩ := getElem?_some_of_lt (show j < l'.length by have := HL'.out; omega)
      have hcell := HO'.out.cell HL'.out.symm hy
      have hfree := HO'.out.free HL'.out.symm j
      have HW := Lib.hid (HO'.out.set (k := j) HL'.out.symm (255 ^^^ y))
      clear hy
      go_wp2
      go_roundw
      case rel =>
        rw [not_u8]
        exact ⟨j + 1, by omega, by go_num, _, by rw [List.length_set, HL'.out], HW.out, grownBy_set HGR.out _ _⟩
      case measure => simp [intOf]; omega
    · have hbr := HBW.out.grown HGR.out hs3 (fun k hk => by cases hk; exact hg1)
      have HBR := Lib.hid hbr
      have BR := Lib.hid (HB.out.below hbr)
      have SR := Lib.hid (HS.out.below hbr)
      have OR := Lib.hid (HO1.out.keep HGR.out hg2)
      have ER := Lib.hid (HE1.out.grown HGR.out (fun k hk => by cases hk; exact hg2))
      have XR := Lib.hid (box4_grown HX1.out HGR.out (by omega))
      have hsr := hbr.size
      clear hj hbr
      go_upto_region 8 with (go_at_call 35; (refine (refOpen_is a c l p k X HR.out _ BR.out).mono ?_); (rintro e w3 ⟨⟨a2, c2, rfl, ho2⟩, hb3⟩); (have HO2 := Lib.hid ho2); (have HB3 := Lib.hid hb3); (have hs4 := hb3.size); (clear ho2 hb3))
      refine wp_name fun W2 hW2 => ?_
      have hbW2 : Below wr.heap.size wr W2 := by rw [hW2]; have := HB3.out; go_grown
      have hX2 : Box4 W2 w3.heap.size (.int .i64 p.kind) (.int .i64 p.id) (.int .u64 (p.gen : Int)) (.slice a2 p.body.length c2) := by rw [hW2]; exact Box4.new _ _ _ _ _ _
      replace HO2 := Lib.hid (show BytesAt W2 (.slice a2 p.body.length c2) p.body by rw [hW2]; exact (HO2.out.alloc _).bytes)
      have HX2 := Lib.hid hX2
      have HBW2 := Lib.hid hbW2
      clear hW2 hX2 hbW2
      have HBA := Lib.hid (HBR.out.trans (HBW2.out.mono hsr))
      have HX1' := Lib.hid (XR.out.below HBW2.out)
      have HS2 := Lib.hid (HS.out.below HBA.out)
      have HE2 := Lib.hid (ER.out.below' HBW2.out)
      have HG2 := Lib.hid ((HBA.out.cell (p := ⟨9, 0, none⟩) hlg).trans HG.out)
      have hs5 := HBA.out.size
      obtain ⟨m0, m1, m2, m3, -, -, -, -⟩ := HX1'.out
      obtain ⟨n0, n1, n2, n3, -, -, -, -⟩ := HX2.out
      go_wp2_with (first
        | (go_at_call 21; (refine (tells05_any HS2.out lp k ev HE2.out _ rfl).mono ?_); (rintro e w3 ⟨rfl, rfl⟩))
        | (go_at_call 36; (refine (faultPage_is X lp HP1.out k ev _ A _ HG2.out HE2.out (by omega)).mono ?_); (rintro e w3 ⟨rfl, hb3⟩); (have HB3 := Lib.hid hb3); (have hs6 := hb3.size); (obtain ⟨x0, x1, x2, x3, -, -, -, -⟩ := HX1'.out.below hb3); (obtain ⟨y0, y1, y2, y3, -, -, -, -⟩ := HX2.out.below hb3); (clear hb3))
        | (go_at_call 16; (refine (refSame_any p p _ _ _ ((OR.out.bytes.below HBW2.out).below HB3.out) (HO2.out.below HB3.out)).mono ?_); (rintro e w4 ⟨rfl, hb4⟩); (have HB4 := Lib.hid (below_step HB3.out hb4)); (clear hb4))
        | (go_at_call 18; (refine (pageAwake_any _ A (HS2.out.below HB4.out)).mono ?_); (rintro e w5 ⟨rfl, hb5⟩); (have HB5 := Lib.hid (below_step HB4.out hb5)); (clear hb5)))
      go_ret
      exact ⟨rfl, HBA.out.trans (HB5.out.mono hs5)⟩
end Go.Proofs.YtaofhdoieffhhaaDoor
