/- the document's space: the walks of Commit and Rollback -/
import Derived.Test.YtlkpdehajkffaaaDoorRefSpace2
import Derived.Test.YtlkpdehajkffaaaDoorMix
namespace Go.Proofs.YtlkpdehajkffaaaDoor
open Go.RowKit
set_option linter.unusedVariables false
set_option linter.unusedSimpArgs false

def cm (x : Int) : Int := tr 3 0 (tr 2 1 x)
theorem commitL_eq (l : List Int) : commitL l = l.map cm := by unfold commitL; rw [List.map_map]; rfl
theorem cm_is {x : Int} (hl : 0 ≤ x ∧ x ≤ 3) : wasB (cm x) = usedB x ∧ usedB (cm x) = usedB x := by
  rcases (show x = 0 ∨ x = 1 ∨ x = 2 ∨ x = 3 by omega) with rfl | rfl | rfl | rfl <;> exact ⟨rfl, rfl⟩
theorem rl_is {x : Int} (hl : 0 ≤ x ∧ x ≤ 3) : wasB (rl x) = wasB x ∧ usedB (rl x) = wasB x := by
  rcases (show x = 0 ∨ x = 1 ∨ x = 2 ∨ x = 3 by omega) with rfl | rfl | rfl | rfl <;> exact ⟨rfl, rfl⟩

set_option maxRecDepth 100000 in
set_option maxHeartbeats 1000000 in
theorem refCommit_any {w : World} {base : Nat} {v : Value} {l : List Int} (hr : RefAt w base v l) (hl : Legal l) (hlen : l.length ≤ 256) :
    Calls Tryd.prog 23 #[v] w fun e w' => GivesRef w.heap.size (commitL l) e w' ∧ Below w.heap.size w w' := by
  obtain ⟨a, c, rfl, h1, h2, hc⟩ := hr.row
  clear hr
  have hm : ((c : Int)) ≤ 9223372036854775807 := by unfold maxLen at h2; omega
  have HC := Lib.hid hc
  have HL := Lib.hid hl
  clear hc hl h2
  go_enter Tryd.func23, Tryd.ntmps23
  go_wp2
  go_loopw [4] (fun i wr => ∃ k : Nat, ∃ c0 : Value, k ≤ l.length ∧ i = .int .i64 k ∧ wr.cell? ⟨w.heap.size + 1 + 1, 0, none⟩ = some c0 ∧ wr.frozen? ⟨w.heap.size + 1 + 1, 0, none⟩ = false ∧ OwnR eBlock wr (w.heap.size + 1 + 1 + 1) c0 ((l.take k).map cm) ∧
    Below (w.heap.size + 1 + 1) (((w.alloc (.cells #[.slice a l.length c] 37)).alloc (.cells #[.slice none 0 0] 37)).alloc (.cells #[.slice none 0 0] 37)) wr) (fun i _ => l.length - (intOf i).toNat)
  case atStart => exact ⟨0, .slice none 0 0, by omega, rfl, by go_simp, by go_simp, OwnR.nil _ _ _, Below.refl _ _⟩
  case round =>
    obtain ⟨k, c0, hk, rfl, hc0, hf0, ho, hbr⟩ := hrel
    have HO := Lib.hid ho
    have HB := Lib.hid hbr
    obtain ⟨bc, bf⟩ := bcellB hbr
    have HB1 : Hid (Below w.heap.size w wr) := Lib.hid ((show Below w.heap.size w _ by go_grown).trans (hbr.mono (by omega)))
    have hsz := World.block_lt_of_cell? wr _ hc0
    simp only at hsz
    clear ho hbr
    by_cases hlt : k < l.length
    · obtain ⟨x, hx⟩ := getElem?_some_of_lt hlt
      rcases HC.out with hn | ⟨g, rfl, hbg, hgl, hc⟩
      · rw [hn] at hlt; simp at hlt
      have c2 : wr.cell? ⟨g, k * 2 + 1, none⟩ = some (.bool (usedB x)) := (HB1.out.cell (p := ⟨g, k * 2 + 1, none⟩) hgl).trans (hc k x hx).2
      have hcl : wr.cell? ⟨w.heap.size, 0, none⟩ = some (.slice (some ⟨g, 0, none⟩) l.length c) := by rw [bc _ _ (by omega)]; go_simp
      have HX := Lib.hid (cm_is (HL.out x (List.mem_of_getElem? hx)))
      have HT : Hid ((l.take (k + 1)).map cm = (l.take k).map cm ++ [cm x]) := Lib.hid (by rw [List.take_add_one, hx]; simp)
      have hkl : (k : Int) < (l.length : Int) := by omega
      clear hc hx
      go_wp2
      have hrow : ∀ j, c0.ownBlock = some j → w.heap.size + 1 + 1 + 1 ≤ j := fun j hj => (HO.out.lt j hj).1
      have near := near_cells (w := wr.drew) (row := c0.ownBlock) (B := w.heap.size + 1 + 1 + 1) hrow (by simp; omega)
      have n1 : ∀ x : Near wr.drew c0.ownBlock, x.world.cell? ⟨w.heap.size + 1 + 1, 0, none⟩ = some c0 := fun x => (near x _ _ (by omega)).trans hc0
      have n2 : ∀ x : Near wr.drew c0.ownBlock, x.world.cell? ⟨w.heap.size, 0, none⟩ = some (.slice (some ⟨g, 0, none⟩) l.length c) := fun x => (near x _ _ (by omega)).trans hcl
      have n3 : ∀ y : Near wr.drew c0.ownBlock, y.world.cell? ⟨g, k * 2 + 1, none⟩ = some (.bool (usedB x)) := fun y => (near y _ _ (by omega)).trans c2
      clear near
      refine wp_region_mix (fun w' => ∃ x : Near wr.drew c0.ownBlock, w' = x.world) [18] 19 (by kernel_rfl) rfl ?_
      refine mix_reads_lit [0, 1, 2, 3, 4, 5, 6, 7, 8, 9, 10, 11, 12, 13, 14] 4 (by kernel_rfl) (by kernel_rfl) (by kernel_rfl) (by kernel_rfl) rfl (NearC.of (World.grownBy.refl _ _)) ?_
      simp only [pick, List.filterMap_cons, List.filterMap_nil, List.getElem?_cons_succ, List.getElem?_cons_zero]
      repeat (first | go_big_quiet_step (fail) | quiet_step (fail))
      refine wpQuiet_nil ?_
      refine mix_deed_lit 15 3 (by kernel_rfl) (by kernel_rfl) rfl (fun K hK => ?_)
      simp only [comesUp, List.getElem?_cons_succ, List.getElem?_cons_zero]
      refine if_mk rfl ?_
      go_simp
      have ga := grown_alloc wr.drew c0.ownBlock (.cells #[.bool (usedB x), .bool (usedB x)] 68)
      refine hK _ _ (fun _ _ => NearC.of ga) ?_
      clear hK K
      refine mix_deed_lit 16 2 (by kernel_rfl) (by kernel_rfl) rfl (fun K hK => ?_)
      simp only [comesUp, List.getElem?_cons_succ, List.getElem?_cons_zero]
      refine if_mk rfl ?_
      refine step_append_row eBlock eBlock_ok (.tmp 14) (.tmp 28) ?ho (w.heap.size + 1 + 1 + 1) c0 ((l.take k).map cm) ?hs ?own [cm x] ?src ?c3 ?c4 ?c5 ?_
      case ho => rfl
      case hs => rfl
      case own => exact HO.out.alloc _
      case src => exact RowAt.one _ (cm x) _ _ (by show [_, _] = [_, _]; rw [HX.out.1, HX.out.2]) _ (by simp)
      case c3 => simp; omega
      case c4 => simp; omega
      case c5 => simp; omega
      intro v2 w2 hown hgrow _
      have gb := grown_trans ga hgrow
      obtain ⟨a2, cc2, hv2, _, _⟩ := hown.slice
      rw [show ((l.take k).map cm ++ [cm x]).length = k + 1 by simp; omega] at hv2
      rw [hv2] at hown ⊢
      clear hv2
      refine hK _ _ (fun _ _ => NearC.of gb) ?_
      clear hK K
      refine mix_reads_lit [17] 1 (by kernel_rfl) (by kernel_rfl) (by kernel_rfl) (by kernel_rfl) rfl (NearC.of gb) ?_
      simp only [pick, List.filterMap_cons, List.filterMap_nil, List.getElem?_cons_succ, List.getElem?_cons_zero]
      repeat (first | go_big_quiet_step (fail) | quiet_step (fail))
      refine wpQuiet_nil ?_
      refine mix_deed_lit 18 0 (by kernel_rfl) (by kernel_rfl) rfl (fun K hK => ?_)
      simp only [comesUp, List.getElem?_cons_succ, List.getElem?_cons_zero]
      refine if_mk rfl ?_
      have hb2 := grown_below gb hrow (by simp; omega)
      obtain ⟨bc2, bf2⟩ := bcellB hb2
      have s1 : w2.cell? ⟨w.heap.size + 1 + 1, 0, none⟩ = some c0 := (bc2 _ _ (by omega)).trans hc0
      go_simp
      refine hK _ _ (fun h => by simp [keeps] at h) ?_
      clear hK K
      refine mix_done_lit (by kernel_rfl) ?_
      have HO2 := Lib.hid hown
      have HB2 := Lib.hid ((HB.out.drew.trans (hb2.mono (Nat.le_succ _))).setCell (p := ⟨w.heap.size + 1 + 1, 0, none⟩) (by simp) (.slice a2 (k + 1) cc2))
      clear hgrow hown hb2
      go_wp2
      go_roundw
      case rel =>
        refine ⟨k + 1, .slice a2 (k + 1) cc2, by omega, by go_num, World.cell?_setCell_same _ _ _ s1, ?_, by rw [HT.out]; exact HO2.out.keep (grownBy_set (World.grownBy.refl _ (some (w.heap.size + 1 + 1))) 0 _) (by omega), HB2.out⟩
        go_simp
      case measure => simp [intOf]; omega
    · have hk2 : k = l.length := by omega
      subst hk2
      obtain ⟨a2, cc2, hv2, _, _⟩ := HO.out.slice
      subst hv2
      go_wp2
      refine bodyPost_ret (v := .agg #[.slice a2 l.length cc2]) (by simp [results, Tryd.results23, go_sem, bc]) rfl ?_
      have hk2 := HO.out
      rw [List.take_length] at hk2
      refine ⟨⟨_, _, _, rfl, ?_⟩, ?_⟩
      · rw [commitL_eq]
        have h3 := (hk2.keep (grownBy_set (World.grownBy.refl _ (some (w.heap.size + 1))) 0 (.slice a2 l.length cc2)) (by omega)).mono (b2 := w.heap.size) (by omega)
        simp only [List.length_map] at h3
        exact RefAt.of (by simpa using h3)
      · exact HB1.out.setCell (by simp) _

set_option maxRecDepth 100000 in
set_option maxHeartbeats 1000000 in
theorem refRollback_any {w : World} {base : Nat} {v : Value} {l : List Int} (hr : RefAt w base v l) (hl : Legal l) (hlen : l.length ≤ 256) :
    Calls Tryd.prog 33 #[v] w fun e w' => GivesRef w.heap.size (rollL l) e w' ∧ Below w.heap.size w w' := by
  obtain ⟨a, c, rfl, h1, h2, hc⟩ := hr.row
  clear hr
  have hm : ((c : Int)) ≤ 9223372036854775807 := by unfold maxLen at h2; omega
  have HC := Lib.hid hc
  have HL := Lib.hid hl
  clear hc hl h2
  go_enter Tryd.func33, Tryd.ntmps33
  go_wp2
  go_loopw [4] (fun i wr => ∃ k : Nat, ∃ c0 : Value, k ≤ l.length ∧ i = .int .i64 k ∧ wr.cell? ⟨w.heap.size + 1 + 1, 0, none⟩ = some c0 ∧ wr.frozen? ⟨w.heap.size + 1 + 1, 0, none⟩ = false ∧ OwnR eBlock wr (w.heap.size + 1 + 1 + 1) c0 ((l.take k).map rl) ∧
    Below (w.heap.size + 1 + 1) (((w.alloc (.cells #[.slice a l.length c] 37)).alloc (.cells #[.slice none 0 0] 37)).alloc (.cells #[.slice none 0 0] 37)) wr) (fun i _ => l.length - (intOf i).toNat)
  case atStart => exact ⟨0, .slice none 0 0, by omega, rfl, by go_simp, by go_simp, OwnR.nil _ _ _, Below.refl _ _⟩
  case round =>
    obtain ⟨k, c0, hk, rfl, hc0, hf0, ho, hbr⟩ := hrel
    have HO := Lib.hid ho
    have HB := Lib.hid hbr
    obtain ⟨bc, bf⟩ := bcellB hbr
    have HB1 : Hid (Below w.heap.size w wr) := Lib.hid ((show Below w.heap.size w _ by go_grown).trans (hbr.mono (by omega)))
    have hsz := World.block_lt_of_cell? wr _ hc0
    simp only at hsz
    clear ho hbr
    by_cases hlt : k < l.length
    · obtain ⟨x, hx⟩ := getElem?_some_of_lt hlt
      rcases HC.out with hn | ⟨g, rfl, hbg, hgl, hc⟩
      · rw [hn] at hlt; simp at hlt
      have c2 : wr.cell? ⟨g, k * 2, none⟩ = some (.bool (wasB x)) := (HB1.out.cell (p := ⟨g, k * 2, none⟩) hgl).trans (hc k x hx).1
      have hcl : wr.cell? ⟨w.heap.size, 0, none⟩ = some (.slice (some ⟨g, 0, none⟩) l.length c) := by rw [bc _ _ (by omega)]; go_simp
      have HX := Lib.hid (rl_is (HL.out x (List.mem_of_getElem? hx)))
      have HT : Hid ((l.take (k + 1)).map rl = (l.take k).map rl ++ [rl x]) := Lib.hid (by rw [List.take_add_one, hx]; simp)
      have hkl : (k : Int) < (l.length : Int) := by omega
      clear hc hx
      go_wp2
      have hrow : ∀ j, c0.ownBlock = some j → w.heap.size + 1 + 1 + 1 ≤ j := fun j hj => (HO.out.lt j hj).1
      have near := near_cells (w := wr.drew) (row := c0.ownBlock) (B := w.heap.size + 1 + 1 + 1) hrow (by simp; omega)
      have n1 : ∀ x : Near wr.drew c0.ownBlock, x.world.cell? ⟨w.heap.size + 1 + 1, 0, none⟩ = some c0 := fun x => (near x _ _ (by omega)).trans hc0
      have n2 : ∀ x : Near wr.drew c0.ownBlock, x.world.cell? ⟨w.heap.size, 0, none⟩ = some (.slice (some ⟨g, 0, none⟩) l.length c) := fun x => (near x _ _ (by omega)).trans hcl
      have n3 : ∀ y : Near wr.drew c0.ownBlock, y.world.cell? ⟨g, k * 2, none⟩ = some (.bool (wasB x)) := fun y => (near y _ _ (by omega)).trans c2
      clear near
      refine wp_region_mix (fun w' => ∃ x : Near wr.drew c0.ownBlock, w' = x.world) [18] 19 (by kernel_rfl) rfl ?_
      refine mix_reads_lit [0, 1, 2, 3, 4, 5, 6, 7, 8, 9, 10, 11, 12, 13, 14] 4 (by kernel_rfl) (by kernel_rfl) (by kernel_rfl) (by kernel_rfl) rfl (NearC.of (World.grownBy.refl _ _)) ?_
      simp only [pick, List.filterMap_cons, List.filterMap_nil, List.getElem?_cons_succ, List.getElem?_cons_zero]
      repeat (first | go_big_quiet_step (fail) | quiet_step (fail))
      refine wpQuiet_nil ?_
      refine mix_deed_lit 15 3 (by kernel_rfl) (by kernel_rfl) rfl (fun K hK => ?_)
      simp only [comesUp, List.getElem?_cons_succ, List.getElem?_cons_zero]
      refine if_mk rfl ?_
      go_simp
      have ga := grown_alloc wr.drew c0.ownBlock (.cells #[.bool (wasB x), .bool (wasB x)] 68)
      refine hK _ _ (fun _ _ => NearC.of ga) ?_
      clear hK K
      refine mix_deed_lit 16 2 (by kernel_rfl) (by kernel_rfl) rfl (fun K hK => ?_)
      simp only [comesUp, List.getElem?_cons_succ, List.getElem?_cons_zero]
      refine if_mk rfl ?_
      refine step_append_row eBlock eBlock_ok (.tmp 14) (.tmp 28) ?ho (w.heap.size + 1 + 1 + 1) c0 ((l.take k).map rl) ?hs ?own [rl x] ?src ?c3 ?c4 ?c5 ?_
      case ho => rfl
      case hs => rfl
      case own => exact HO.out.alloc _
      case src => exact RowAt.one _ (rl x) _ _ (by show [_, _] = [_, _]; rw [HX.out.1, HX.out.2]) _ (by simp)
      case c3 => simp; omega
      case c4 => simp; omega
      case c5 => simp; omega
      intro v2 w2 hown hgrow _
      have gb := grown_trans ga hgrow
      obtain ⟨a2, cc2, hv2, _, _⟩ := hown.slice
      rw [show ((l.take k).map rl ++ [rl x]).length = k + 1 by simp; omega] at hv2
      rw [hv2] at hown ⊢
      clear hv2
      refine hK _ _ (fun _ _ => NearC.of gb) ?_
      clear hK K
      refine mix_reads_lit [17] 1 (by kernel_rfl) (by kernel_rfl) (by kernel_rfl) (by kernel_rfl) rfl (NearC.of gb) ?_
      simp only [pick, List.filterMap_cons, List.filterMap_nil, List.getElem?_cons_succ, List.getElem?_cons_zero]
      repeat (first | go_big_quiet_step (fail) | quiet_step (fail))
      refine wpQuiet_nil ?_
      refine mix_deed_lit 18 0 (by kernel_rfl) (by kernel_rfl) rfl (fun K hK => ?_)
      simp only [comesUp, List.getElem?_cons_succ, List.getElem?_cons_zero]
      refine if_mk rfl ?_
      have hb2 := grown_below gb hrow (by simp; omega)
      obtain ⟨bc2, bf2⟩ := bcellB hb2
      have s1 : w2.cell? ⟨w.heap.size + 1 + 1, 0, none⟩ = some c0 := (bc2 _ _ (by omega)).trans hc0
      go_simp
      refine hK _ _ (fun h => by simp [keeps] at h) ?_
      clear hK K
      refine mix_done_lit (by kernel_rfl) ?_
      have HO2 := Lib.hid hown
      have HB2 := Lib.hid ((HB.out.drew.trans (hb2.mono (Nat.le_succ _))).setCell (p := ⟨w.heap.size + 1 + 1, 0, none⟩) (by simp) (.slice a2 (k + 1) cc2))
      clear hgrow hown hb2
      go_wp2
      go_roundw
      case rel =>
        refine ⟨k + 1, .slice a2 (k + 1) cc2, by omega, by go_num, World.cell?_setCell_same _ _ _ s1, ?_, by rw [HT.out]; exact HO2.out.keep (grownBy_set (World.grownBy.refl _ (some (w.heap.size + 1 + 1))) 0 _) (by omega), HB2.out⟩
        go_simp
      case measure => simp [intOf]; omega
    · have hk2 : k = l.length := by omega
      subst hk2
      obtain ⟨a2, cc2, hv2, _, _⟩ := HO.out.slice
      subst hv2
      go_wp2
      refine bodyPost_ret (v := .agg #[.slice a2 l.length cc2]) (by simp [results, Tryd.results33, go_sem, bc]) rfl ?_
      have hk2 := HO.out
      rw [List.take_length] at hk2
      refine ⟨⟨_, _, _, rfl, ?_⟩, ?_⟩
      · rw [rollL_eq]
        have h3 := (hk2.keep (grownBy_set (World.grownBy.refl _ (some (w.heap.size + 1))) 0 (.slice a2 l.length cc2)) (by omega)).mono (b2 := w.heap.size) (by omega)
        simp only [List.length_map] at h3
        exact RefAt.of (by simpa using h3)
      · exact HB1.out.setCell (by simp) _
end Go.Proofs.YtlkpdehajkffaaaDoor
