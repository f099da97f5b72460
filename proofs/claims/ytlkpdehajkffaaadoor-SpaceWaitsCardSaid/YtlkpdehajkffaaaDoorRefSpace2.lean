/- the document's space: the walks that make memory: Used, Set, New, Take, Give, Mark, Commit, Rollback -/
import Derived.Test.YtlkpdehajkffaaaDoorSpaceMath
import Derived.Test.YtlkpdehajkffaaaDoorElem
namespace Go.Proofs.YtlkpdehajkffaaaDoor
open Go.RowKit
set_option linter.unusedVariables false
set_option linter.unusedSimpArgs false

set_option maxHeartbeats 1000000 in
theorem refUsed_any {w : World} {base : Nat} {v : Value} {l : List Int} (hr : RefAt w base v l) (hlen : l.length ≤ 256) :
    Calls Tryd.prog 37 #[v] w fun e w' => GivesInts w.heap.size (usedOf l l.length) e w' ∧ Below w.heap.size w w' := by
  obtain ⟨a, c, rfl, h1, h2, hc⟩ := hr.row
  clear hr
  have hm : ((c : Int)) ≤ 9223372036854775807 := by unfold maxLen at h2; omega
  have HC := Lib.hid hc
  clear hc
  have hb0 : Below w.heap.size w ((w.alloc (.cells #[Value.slice a l.length c] 37)).alloc (.cells #[] 3)) := by go_grown
  have hcell0 : (w.alloc (.cells #[Value.slice a l.length c] 37)).cell? ⟨w.heap.size, 0, none⟩ = some (.slice a l.length c) := by simp
  have HO : Hid (OwnI ((w.alloc (.cells #[Value.slice a l.length c] 37)).alloc (.cells #[] 3)) (w.heap.size + 1) (.slice (some ⟨w.heap.size + 1, 0, none⟩) 0 0) []) := Lib.hid (by
    have := OwnI.empty (w.alloc (.cells #[Value.slice a l.length c] 37)) (w.heap.size + 1) (by simp)
    simpa using this)
  go_enter Tryd.func37, Tryd.ntmps37
  go_wp2
  go_loopw [3, 4] (fun c0 i wr => ∃ k : Nat, k ≤ l.length ∧ i = .int .i64 k ∧ OwnI wr (w.heap.size + 1) c0 (usedOf l k) ∧ Below w.heap.size w wr ∧ wr.cell? ⟨w.heap.size, 0, none⟩ = some (.slice a l.length c)) (fun _ i _ => l.length - (intOf i).toNat)
  case atStart => exact ⟨0, by omega, rfl, HO.out, hb0, by simp⟩
  case round =>
    obtain ⟨k, hk, rfl, ho, hbr, hcl⟩ := hrel
    have HO2 := Lib.hid ho
    clear ho hcell0 hb0 HO
    by_cases hlt : k < l.length
    · obtain ⟨x, hx⟩ := getElem?_some_of_lt hlt
      rcases HC.out with hn | ⟨g, rfl, hbg, hgl, hc⟩
      · rw [hn] at hlt; simp at hlt
      have c2 := (hbr.cell hgl).trans (hc k x hx).2
      have hul := usedOf_le l k
      have hsz := hbr.size
      have hlt2 : w.heap.size < wr.heap.size := World.block_lt_of_cell? wr _ hcl
      have HU := Lib.hid (usedOf_succ hx)
      clear hx hc
      by_cases hu : usedB x = true
      · have HU2 := Lib.hid (show usedOf l (k + 1) = usedOf l k ++ [(k : Int)] by rw [HU.out, if_pos hu])
        rw [hu] at c2
        clear hu HU
        have hll : (usedOf l k).length + [(k : Int)].length ≤ 17592186044416 := by simp; omega
        go_wp2_with (at_builtin; refine wpList_append_ints rfl (.tmp 19) (.tmp 21) rfl (w.heap.size + 1) _ (usedOf l k) rfl (HO2.out.alloc _) _ [(k : Int)] rfl (one_int _ _ _) hll (by simp; omega) ?_)
        intro v2 w2 hown hgrow _
        have hb2 := (hbr.alloc hsz (.cells #[.int .i64 (k : Int)] 3)).grown hgrow (by simp; omega) (fun j hj => by have := (HO2.out.lt j hj).1; omega)
        have hcl2 : w2.cell? ⟨w.heap.size, 0, none⟩ = some (.slice (some ⟨g, 0, none⟩) l.length c) :=
          hgrow.cell ((((Below.refl wr.heap.size wr).alloc (Nat.le_refl _) _).cell (p := ⟨w.heap.size, 0, none⟩) hlt2).trans hcl) (fun e => by have := (HO2.out.lt _ e.symm).1; simp at this; omega)
        have HO3 := Lib.hid hown
        clear hgrow hown hcl
        go_wp2
        go_roundw
        case rel => exact ⟨k + 1, by omega, by go_num, by rw [HU2.out]; exact HO3.out, hb2, hcl2⟩
        case measure => simp [intOf]; omega
      · have HU2 := Lib.hid (show usedOf l (k + 1) = usedOf l k by rw [HU.out, if_neg hu, List.append_nil])
        have hu : usedB x = false := by simpa using hu
        rw [hu] at c2
        clear hu HU
        go_wp2
        go_roundw
        case rel => exact ⟨k + 1, by omega, by go_num, by rw [HU2.out]; exact HO2.out, hbr, hcl⟩
        case measure => simp [intOf]; omega
    · have hk2 : k = l.length := by omega
      subst hk2
      go_wp2
      go_ret
      exact ⟨⟨_, rfl, HO2.out.mono (by omega)⟩, hbr⟩

/-- the blocks of the document's space -/
abbrev eBlock : Elem Int := ⟨35, 68, 2, 2, .agg #[.bool false, .bool false], fun x => [.bool (wasB x), .bool (usedB x)]⟩
theorem infoBlock : (Tryd.prog.info? 68).map (fun i => (i.zero, i.size, i.bytes)) = some (some (.agg #[.bool false, .bool false]), 2, 2) := by kernel_rfl
theorem eBlock_ok : eBlock.Ok where
  len _ := rfl
  one x u hu := by simp at hu; rcases hu with rfl | rfl <;> rfl
  und := Tryd.underlying35
  info := infoBlock
  zs := rfl
theorem eBlock_all (l : List Int) : eBlock.all l = blocksV l := by
  induction l with
  | nil => rfl
  | cons x l ih => simp only [Elem.all, List.flatMap_cons] at ih ⊢; rw [ih]; rfl
theorem own_ref {w : World} {base : Nat} {sl : Value} {l : List Int} : OwnR eBlock w base sl l ↔ w.ownsRow base 68 2 sl l.length (blocksV l) := by
  unfold OwnR; rw [eBlock_all]
theorem RefAt.of {w : World} {base : Nat} {sl : Value} {l : List Int} (h : OwnR eBlock w base sl l) : RefAt w base (.agg #[sl]) l := ⟨sl, rfl, own_ref.1 h⟩

def codeOf : Bool → Bool → Int
  | true, true => 1
  | true, false => 3
  | false, true => 2
  | false, false => 0
theorem codeOf_is (a b : Bool) : wasB (codeOf a b) = a ∧ usedB (codeOf a b) = b := by cases a <;> cases b <;> exact ⟨rfl, rfl⟩
def GivesRef (B : Nat) (l : List Int) (e : Ending) (w' : World) : Prop := ∃ a n c, e = .returned (.agg #[.slice a n c]) ∧ RefAt w' B (.agg #[.slice a n c]) l

theorem bcellB {w w1 : World} {B : Nat} (hb : Below B w w1) : (∀ b o, b < B → w1.cell? ⟨b, o, none⟩ = w.cell? ⟨b, o, none⟩) ∧ (∀ b o, b < B → w1.frozen? ⟨b, o, none⟩ = w.frozen? ⟨b, o, none⟩) :=
  ⟨fun b o h => hb.cell (p := ⟨b, o, none⟩) h, fun b o h => hb.frozen (p := ⟨b, o, none⟩) h⟩

set_option maxHeartbeats 1000000 in
theorem refSet_any {w : World} {base : Nat} {v : Value} {l : List Int} (hr : RefAt w base v l) (hlen : l.length ≤ 256) (k : Nat) (hk : k < l.length) (x : Int) :
    Calls Tryd.prog 40 #[v, .int .i64 (k : Int), .agg #[.bool (wasB x), .bool (usedB x)]] w fun e w' => GivesRef w.heap.size (l.set k x) e w' ∧ Below w.heap.size w w' := by
  obtain ⟨sl, rfl, hown0⟩ := hr
  have hown0 := own_ref.2 hown0
  obtain ⟨g, c, rfl⟩ : ∃ g c, sl = .slice (some ⟨g, 0, none⟩) l.length c := by
    rcases hown0.row with ⟨rfl, rfl⟩ | ⟨g, cap, rfl, _⟩
    · simp at hk
    · exact ⟨g, cap, rfl⟩
  have HR := Lib.hid hown0
  obtain ⟨y, hy⟩ := getElem?_some_of_lt hk
  have HY := Lib.hid hy
  clear hown0 hy
  go_enter Tryd.func40, Tryd.ntmps40
  go_wp2_with (at_builtin; refine wpList_append_row eBlock eBlock_ok rfl (.tmp 8) (.tmp 10) rfl (w.heap.size + 1 + 1 + 1) _ [] rfl (OwnR.empty_at _ _ _ (by simp) (by simp)) _ l rfl ((((HR.out.at eBlock_ok).alloc _).alloc _).alloc _ |>.alloc _) (by simp; omega) (by simp; omega) (by simp) ?_)
  intro v2 w2 hown hgrow _
  have hb2 := (Below.refl (w.heap.size + 1 + 1 + 1) _).grown hgrow (by simp) (fun k hk => by simp [Value.ownBlock] at hk; omega)
  obtain ⟨hc2, hf2⟩ := bcellB hb2
  obtain ⟨g2, cap2, hv2, hg2, hn2, hcm2⟩ : ∃ g2 cap2, v2 = .slice (some ⟨g2, 0, none⟩) l.length cap2 ∧ w.heap.size + 1 + 1 + 1 ≤ g2 ∧ l.length ≤ cap2 ∧ cap2 ≤ maxLen := by
    rcases hown.row with ⟨rfl, h0⟩ | ⟨g, cap, rfl, hb, _, hnc, hcm⟩
    · exact absurd (h0 ▸ hk) (by simp)
    · exact ⟨g, cap, by simp, hb, by simpa using hnc, hcm⟩
  subst hv2
  have d1 := hown.cell eBlock_ok (k := k) (j := 0) HY.out rfl
  have d2 := hown.cell eBlock_ok (k := k) (j := 1) HY.out rfl
  have e1 := hown.free (k * 2)
  have e2 := hown.free (k * 2 + 1)
  simp only [Nat.add_zero] at d1
  have hm2 : (cap2 : Int) ≤ 9223372036854775807 := by unfold maxLen at hcm2; omega
  have hkl : (k : Int) < (l.length : Int) := by omega
  have HO := Lib.hid hown
  have HB := Lib.hid hb2
  clear hown hgrow hb2 hcm2
  go_wp2
  have b0 : Below w.heap.size w w2 := by
    refine Below.trans ?_ (HB.out.mono (by omega))
    go_grown
  have hset : OwnR eBlock ((w2.setCell ⟨g2, k * 2, none⟩ (.bool (wasB x))).setCell ⟨g2, k * 2 + 1, none⟩ (.bool (usedB x))) (w.heap.size + 1 + 1 + 1) (.slice (some ⟨g2, 0, none⟩) l.length cap2) (l.set k x) := by
    have h1 := HO.out.set eBlock_ok (j := 0) (y := codeOf (wasB x) (usedB y)) (u := .bool (wasB x)) HY.out (by decide) (by show [_, _] = _; rw [(codeOf_is _ _).1, (codeOf_is _ _).2]; rfl)
    have h2 := h1.set eBlock_ok (k := k) (j := 1) (x := codeOf (wasB x) (usedB y)) (y := x) (u := .bool (usedB x)) (by rw [List.getElem?_set, if_pos rfl, if_pos hk]) (by decide) (by show [_, _] = [_, _].set 1 _; rw [(codeOf_is _ _).1]; rfl)
    rw [List.set_set] at h2
    exact h2
  have HF := Lib.hid (hset.keep (grownBy_set (World.grownBy.refl _ (some (w.heap.size + 1 + 1))) 0 (.slice (some ⟨g2, 0, none⟩) l.length cap2)) (by omega))
  have hne : ¬ g2 = w.heap.size + 1 + 1 := by omega
  refine bodyPost_ret (v := .agg #[.slice (some ⟨g2, 0, none⟩) l.length cap2]) (by simp [results, Tryd.results40, go_sem, hc2, hne]) rfl ?_
  refine ⟨⟨_, _, _, rfl, RefAt.of (HF.out.mono (by omega))⟩, ?_⟩
  exact ((b0.setCell (by simp; omega) _).setCell (by simp; omega) _).setCell (by simp; omega) _
/-- the same, the block's truths as they stand in the text -/
theorem refSet_is {w : World} {base : Nat} {v : Value} {l : List Int} (hr : RefAt w base v l) (hlen : l.length ≤ 256) (k : Nat) (hk : k < l.length) (x : Int) (a b : Bool) (ha : wasB x = a) (hb : usedB x = b) :
    Calls Tryd.prog 40 #[v, .int .i64 (k : Int), .agg #[.bool a, .bool b]] w fun e w' => GivesRef w.heap.size (l.set k x) e w' ∧ Below w.heap.size w w' := by
  subst ha hb; exact refSet_any hr hlen k hk x
end Go.Proofs.YtlkpdehajkffaaaDoor
