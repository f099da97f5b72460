/- a space beside the document's: same, made; a call of any kind -/
import Derived.Test.YtlkpdehajkffaaaDoorSpaceStep
namespace Go.Proofs.YtlkpdehajkffaaaDoor
open Go.RowKit
set_option linter.unusedVariables false
set_option linter.unusedSimpArgs false

theorem step_any {W w : World} {p g base : Nat} {v : Value} {l : List Int} (hW : Below W.heap.size W w) (hs : SpaceAt w W.heap.size p g l) (hr : RefAt w base v l) (hg : g < base) (hbase : base ≤ w.heap.size) (hl : Legal l) (kind id : Int) (A : Nat → Addr) (hsent : Sents W A) :
    Calls Tryd.prog 16 #[.pointer (some ⟨p, 0, none⟩), v, .agg #[.int .i64 kind, .int .i64 id]] w (Stepped w W.heap.size p g base v (stepL l kind id)) := by
  unfold stepL
  split
  · subst kind; exact step_take hW hs hr hg hbase hl id A hsent
  split
  · subst kind; exact step_give hW hs hr hg hbase hl id A hsent
  split
  · subst kind; exact step_mark hW hs hr hg hbase hl id A hsent
  split
  · exact step_commit hW hs hr hg hbase hl kind id (by assumption)
  · exact step_roll hW hs hr hg hbase hl kind id ⟨by assumption, by assumption, by assumption, by assumption⟩

set_option maxRecDepth 100000 in
set_option maxHeartbeats 1000000 in
theorem same_any9 {w : World} {B p g base : Nat} {v : Value} {l : List Int} (hs : SpaceAt w B p g l) (hr : RefAt w base v l) (hl : Legal l) :
    Calls Tryd.prog 20 #[.pointer (some ⟨p, 0, none⟩), v] w fun e w' => e = .returned (.bool true) ∧ Below w.heap.size w w' := by
  have HS := Lib.hid hs
  have HR := Lib.hid hr
  have HL := Lib.hid hl
  have hlen := hs.len
  obtain ⟨a, n, c, rfl⟩ := hr.form
  clear hs hr hl
  go_enter Tryd.func20, Tryd.ntmps20
  go_wp2
  have n0 := Near.cell (w := (w.alloc (.cells #[.slice a n c] 37)).drew) (row := none) (a := ⟨w.heap.size, 0, none⟩) (v := .slice a n c) (by go_simp) (by simp)
  generalize hwx : w.alloc (.cells #[.slice a n c] 37) = wx at *
  have HX := Lib.hid hwx
  clear hwx
  have HSX : Hid (SpaceAt wx B p g l) := Lib.hid (by rw [← HX.out]; exact HS.out.alloc _)
  have HRX : Hid (RefAt wx base (.agg #[.slice a n c]) l) := Lib.hid (by rw [← HX.out]; exact HR.out.alloc _)
  have HBX : Hid (Below w.heap.size w wx) := Lib.hid (by rw [← HX.out]; go_grown)
  refine wp_region_mix (fun w' => ∃ x : Near wx.drew none, w' = x.world) [] 13 (by kernel_rfl) rfl ?_
  refine mix_reads_lit [0, 2] 11 (by kernel_rfl) (by kernel_rfl) (by kernel_rfl) (by kernel_rfl) rfl (NearC.of (World.grownBy.refl _ _)) ?_
  simp only [pick, List.filterMap_cons, List.filterMap_nil, List.getElem?_cons_succ, List.getElem?_cons_zero]
  repeat (first | go_big_quiet_step (fail) | quiet_step (fail))
  refine wpQuiet_nil ?_
  refine mix_deed_lit 1 10 (by kernel_rfl) (by kernel_rfl) rfl (fun K hK => ?_)
  simp only [comesUp, List.getElem?_cons_succ, List.getElem?_cons_zero]
  refine if_mk rfl ?_
  go_simp
  refine (free_any HSX.out.drew).mono ?_
  rintro e w1 ⟨rfl, rfl⟩
  refine hK _ _ (fun _ _ => NearC.of (World.grownBy.refl _ _)) ?_
  clear hK K
  refine mix_deed_lit 3 9 (by kernel_rfl) (by kernel_rfl) rfl (fun K hK => ?_)
  simp only [comesUp, List.getElem?_cons_succ, List.getElem?_cons_zero]
  refine if_mk rfl ?_
  go_simp
  refine (refFree_any HRX.out.drew HL.out hlen).mono ?_
  rintro e w2 ⟨rfl, hb2⟩
  refine hK _ _ (fun _ _ => NearC.of (grown_of_below hb2 (Nat.le_refl _) _)) ?_
  clear hK K
  refine mix_reads_lit [4, 5, 6, 8] 5 (by kernel_rfl) (by kernel_rfl) (by kernel_rfl) (by kernel_rfl) rfl (NearC.of (grown_of_below hb2 (Nat.le_refl _) _)) ?_
  simp only [pick, List.filterMap_cons, List.filterMap_nil, List.getElem?_cons_succ, List.getElem?_cons_zero]
  repeat (first | go_big_quiet_step (fail) | quiet_step (fail))
  refine wpQuiet_nil ?_
  refine mix_deed_lit 7 4 (by kernel_rfl) (by kernel_rfl) rfl (fun K hK => ?_)
  simp only [comesUp, List.getElem?_cons_succ, List.getElem?_cons_zero]
  refine if_mk rfl ?_
  go_simp
  have HB2 := Lib.hid hb2
  refine (used_any (HSX.out.drew.below hb2)).mono ?_
  rintro e w3 ⟨⟨v3, rfl, hv3⟩, hb3⟩
  have g3 := below_step (show Below wx.drew.heap.size wx.drew w2 from HB2.out) hb3
  refine hK _ _ (fun _ _ => NearC.of (grown_of_below g3 (Nat.le_refl _) _)) ?_
  clear hK K
  refine mix_deed_lit 9 3 (by kernel_rfl) (by kernel_rfl) rfl (fun K hK => ?_)
  simp only [comesUp, List.getElem?_cons_succ, List.getElem?_cons_zero]
  refine if_mk rfl ?_
  go_simp
  refine (refUsed_any (HRX.out.drew.below g3 (Nat.le_refl _)) hlen).mono ?_
  rintro e w4 ⟨⟨v4, rfl, hv4⟩, hb4⟩
  have g4 := below_step g3 hb4
  refine hK _ _ (fun _ _ => NearC.of (grown_of_below g4 (Nat.le_refl _) _)) ?_
  clear hK K
  refine mix_deed_lit 10 2 (by kernel_rfl) (by kernel_rfl) rfl (fun K hK => ?_)
  simp only [comesUp, List.getElem?_cons_succ, List.getElem?_cons_zero]
  refine if_mk rfl ?_
  go_simp
  refine (sameInts_any _ _ _ _ _ (hv3.ints.below hb4) hv4.ints).mono ?_
  rintro e w5 ⟨rfl, hb5⟩
  have g5 := below_step g4 hb5
  rw [beq_self_eq_true]
  refine hK _ _ (fun _ _ => NearC.of (grown_of_below g5 (Nat.le_refl _) _)) ?_
  clear hK K
  refine mix_reads_lit [11, 12] 0 (by kernel_rfl) (by kernel_rfl) (by kernel_rfl) (by kernel_rfl) rfl (NearC.of (grown_of_below g5 (Nat.le_refl _) _)) ?_
  simp only [pick, List.filterMap_cons, List.filterMap_nil, List.getElem?_cons_succ, List.getElem?_cons_zero]
  repeat (first | go_big_quiet_step (fail) | quiet_step (fail))
  refine wpQuiet_nil ?_
  refine mix_done_lit (by kernel_rfl) ?_
  have HB5 := Lib.hid (HBX.out.drew.trans (g5.mono HBX.out.size))
  clear g3 g4 g5 hb2 hb3 hb4 hb5
  go_wp2
  go_ret
  exact ⟨rfl, HB5.out⟩

/-- a space, made; the document's -/
def Made (w : World) (e : Ending) (w' : World) : Prop :=
  ∃ p g base a m c, ∃ M : Nat, (8 ≤ M ∧ M ≤ 16) ∧ e = .returned (.tuple #[.pointer (some ⟨p, 0, none⟩), .agg #[.slice a m c], .bool true]) ∧ SpaceAt w' w.heap.size p g (fresh0 M) ∧ RefAt w' base (.agg #[.slice a m c]) (fresh0 M) ∧ (p < base ∧ g < base ∧ base ≤ w'.heap.size) ∧ Below w.heap.size w w' ∧ RefNe (.agg #[.slice a m c]) w'.heap.size
theorem made_num (n : Int) : ∃ M : Nat, wrap64 (8 + wrap64 ((IntKind.u64.wrap n).tmod 9)) = (M : Int) ∧ 8 ≤ M ∧ M ≤ 16 := by
  rw [IntKind.wrap_u64]
  generalize hx : n % 18446744073709551616 = x
  have h0 : 0 ≤ x := by omega
  rw [Int.tmod_eq_emod_of_nonneg h0]
  have h1 : wrap64 (x % 9) = x % 9 := IntWalk.wrap64_in _ (by omega)
  rw [h1]
  have h2 : wrap64 (8 + x % 9) = 8 + x % 9 := IntWalk.wrap64_in _ (by omega)
  rw [h2]
  exact ⟨(8 + x % 9).toNat, by omega, by omega, by omega⟩
set_option maxRecDepth 100000 in
set_option maxHeartbeats 1000000 in
theorem made_any (n : Int) (w : World) : Calls Tryd.prog 15 #[.int .i64 n] w (Made w) := by
  obtain ⟨M, hM, h8, h16⟩ := made_num n
  go_enter Tryd.func15, Tryd.ntmps15
  go_wp2_with (go_at_call 9; refine (new_ok M h8 (by omega) _).mono ?_; rintro e w1 ⟨⟨p, g, rfl, hs⟩, hb⟩)
  obtain ⟨bc1, bf1⟩ := bcellB hb
  have hs1 := hb.size
  simp at hs1
  have q1 : w1.cell? ⟨w.heap.size, 0, none⟩ = some (.slice none 0 0) := by rw [bc1 _ _ (by simp)]; go_simp
  have q2 : w1.frozen? ⟨w.heap.size, 0, none⟩ = false := by rw [bf1 _ _ (by simp)]; go_simp
  have HS := Lib.hid hs
  have HB := Lib.hid hb
  have hgp := hs.hg
  have hpp := hs.hp
  simp at hgp hpp
  have hpl := hs.lt
  clear hs hb bc1 bf1
  refine wp_region_mix (fun w' => ∃ x : Near w1.drew (some w.heap.size), w' = x.world) [] 12 (by kernel_rfl) rfl ?_
  refine mix_reads_lit [0, 1, 3, 4] 8 (by kernel_rfl) (by kernel_rfl) (by kernel_rfl) (by kernel_rfl) rfl (NearC.of (World.grownBy.refl _ _)) ?_
  simp only [pick, List.filterMap_cons, List.filterMap_nil, List.getElem?_cons_succ, List.getElem?_cons_zero]
  repeat (first | go_big_quiet_step (fail) | quiet_step (fail))
  refine wpQuiet_nil ?_
  refine mix_deed_lit 2 7 (by kernel_rfl) (by kernel_rfl) rfl (fun K hK => ?_)
  simp only [comesUp, List.getElem?_cons_succ, List.getElem?_cons_zero]
  refine if_mk rfl ?_
  go_simp
  refine (refNew_any M h8 (by omega) _).mono ?_
  rintro e w2 ⟨⟨a2, n2, c2, rfl, hr2⟩, hb2⟩
  have g2 := grown_of_below hb2 (Nat.le_refl _) (some w.heap.size)
  have hs2 := hb2.size
  simp at hs2
  have q3 : w2.cell? ⟨w.heap.size, 0, none⟩ = some (.slice none 0 0) := by rw [(bcellB hb2).1 _ _ (by simp; omega)]; exact q1
  have q4 : w2.frozen? ⟨w.heap.size, 0, none⟩ = false := by rw [(bcellB hb2).2 _ _ (by simp; omega)]; exact q2
  refine hK _ _ (fun _ _ => NearC.of g2) ?_
  clear hK K
  refine mix_reads_lit [5, 6, 7, 8] 3 (by kernel_rfl) (by kernel_rfl) (by kernel_rfl) (by kernel_rfl) rfl (NearC.of g2) ?_
  simp only [pick, List.filterMap_cons, List.filterMap_nil, List.getElem?_cons_succ, List.getElem?_cons_zero]
  repeat (first | go_big_quiet_step (fail) | quiet_step (fail))
  refine wpQuiet_nil ?_
  refine mix_deed_lit 9 2 (by kernel_rfl) (by kernel_rfl) rfl (fun K hK => ?_)
  simp only [comesUp, List.getElem?_cons_succ, List.getElem?_cons_zero]
  refine if_mk rfl ?_
  go_simp
  refine hK _ _ (fun _ _ => NearC.of g2) ?_
  clear hK K
  refine mix_deed_lit 10 1 (by kernel_rfl) (by kernel_rfl) rfl (fun K hK => ?_)
  simp only [comesUp, List.getElem?_cons_succ, List.getElem?_cons_zero]
  refine if_mk rfl ?_
  go_simp
  refine hK _ _ (fun _ _ => NearC.of (grownBy_set g2 _ _)) ?_
  clear hK K
  refine mix_deed_lit 11 0 (by kernel_rfl) (by kernel_rfl) rfl (fun K hK => ?_)
  simp only [comesUp, List.getElem?_cons_succ, List.getElem?_cons_zero]
  refine if_mk rfl ?_
  go_simp
  refine hK _ _ (fun _ _ => NearC.of (grownBy_set g2 _ _)) ?_
  clear hK K
  refine mix_done_lit (by kernel_rfl) ?_
  have HR := Lib.hid hr2
  have HB2 := Lib.hid hb2
  clear hr2 hb2 g2 q1 q2
  go_wp2
  refine bodyPost_ret (v := .tuple #[.pointer (some ⟨p, 0, none⟩), .agg #[.slice a2 n2 c2], .bool true]) (by simp [results, Tryd.results15, go_sem, q3]) rfl ?_
  refine ⟨p, g, w1.heap.size, _, _, _, M, ⟨h8, h16⟩, rfl, ?_, ?_, ⟨hpl.1, hpl.2, by simp; omega⟩, ?_, ?_⟩
  · exact ((HS.out.drew.below HB2.out).mono (by simp)).other _ _ _ (by omega) (by omega)
  · exact HR.out.keep (grownBy_set (World.grownBy.refl _ (some w.heap.size)) 0 (.slice a2 n2 c2)) (by simp; omega)
  · exact ((((show Below w.heap.size w _ by go_grown).trans (HB.out.mono (by simp))).drew).trans (HB2.out.mono (by simp; omega))).setCell (by simp) _
  · intro sl e hsl
    obtain ⟨sl', e', h1⟩ := HR.out
    obtain rfl : sl = sl' := by simp at e e'; rw [← e, ← e']
    have := (World.ownsRow.lt h1 _ hsl).2
    simp at this
end Go.Proofs.YtlkpdehajkffaaaDoor
