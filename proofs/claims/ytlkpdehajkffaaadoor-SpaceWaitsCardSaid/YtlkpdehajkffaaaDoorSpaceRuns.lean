/- the walks of layer 09's statements over a space beside the document's (printed by wip/tools/gen_space.py) -/
import Derived.Test.YtlkpdehajkffaaaDoorSpacePlay
import Derived.Test.YtlkpdehajkffaaaDoorOpenPairs
namespace Go.Proofs.YtlkpdehajkffaaaDoor
open Go.RowKit
set_option linter.unusedVariables false
set_option linter.unusedSimpArgs false

/-- a space beside the document's, whose value lies in block r -/
structure Run (W wr : World) (p g base r : Nat) (ls : List Int) : Prop where
  sp : SpaceAt wr W.heap.size p g ls
  ok : Legal ls
  cell : ∃ a m c, wr.cell? ⟨r, 0, none⟩ = some (.slice a m c) ∧ RefAt wr base (.agg #[.slice a m c]) ls ∧ RefNe (.agg #[.slice a m c]) r
  free : wr.frozen? ⟨r, 0, none⟩ = false
  hp : p < base
  hg : g < base
  hb : base ≤ r
  hr : r < wr.heap.size
  below : Below W.heap.size W wr
/-- behind 'made', its value put into a new block -/
theorem Run.start {W w1 : World} {p g base m c M : Nat} {a : Option Addr} (h8 : 8 ≤ M ∧ M ≤ 16) (hs : SpaceAt w1 W.heap.size p g (fresh0 M)) (hr : RefAt w1 base (.agg #[.slice a m c]) (fresh0 M)) (hn : RefNe (.agg #[.slice a m c]) w1.heap.size)
    (hg : p < base ∧ g < base ∧ base ≤ w1.heap.size) (hb : Below W.heap.size W w1) : Run W (w1.alloc (.cells #[.slice a m c] 37)) p g base w1.heap.size (fresh0 M) :=
  ⟨hs.alloc _, legal_fresh0 M, ⟨a, m, c, by go_simp, hr.alloc _, hn⟩, by go_simp, hg.1, hg.2.1, hg.2.2, by simp, hb.alloc hb.size _⟩
theorem Run.drew {W wr : World} {p g base r : Nat} {ls : List Int} (h : Run W wr p g base r ls) : Run W wr.drew p g base r ls := by
  obtain ⟨a, m, c, hc, hr, hn⟩ := h.cell
  exact ⟨h.sp.drew, h.ok, ⟨a, m, c, hc, hr.drew, hn⟩, h.free, h.hp, h.hg, h.hb, h.hr, h.below.drew⟩
/-- behind a call, its value put into the block -/
theorem Run.next {W wr w2 : World} {p g base r m c : Nat} {a : Option Addr} {v : Value} {ls l2 : List Int} (h : Run W wr p g base r ls) (h2 : SpaceAt w2 W.heap.size p g l2) (hl : Legal l2) (hr2 : RefAt w2 base (.agg #[.slice a m c]) l2)
    (hn : RefNe (.agg #[.slice a m c]) r) (hg2 : wr.grownBy w2 (some g)) : Run W (w2.setCell ⟨r, 0, none⟩ (.slice a m c)) p g base r l2 := by
  obtain ⟨a0, m0, c0, hc0, _, _⟩ := h.cell
  have hp := h.hp
  have hg := h.hg
  have hb := h.hb
  have hr := h.hr
  have hsz := hg2.size
  have hgW := h.sp.hg
  have hc2 := grown_cell hg2 hc0 (by simp; omega)
  refine ⟨h2.other _ _ _ (by omega) (by omega), hl, ⟨a, m, c, World.cell?_setCell_same _ _ _ hc2, hr2.setNe hn, hn⟩, ?_, hp, hg, hb, by simp; omega, ?_⟩
  · have := grown_frozen hg2 h.hr h.free (by simp; omega)
    simpa using this
  · exact (h.below.trans (grown_below hg2 (fun k hk => by simp at hk; omega) h.below.size)).setCell (by simp; omega) _
/-- behind what makes memory alone -/
theorem Run.later {W wr w' : World} {p g base r : Nat} {ls : List Int} (h : Run W wr p g base r ls) (hb : Below wr.heap.size wr w') : Run W w' p g base r ls := by
  obtain ⟨a, m, c, hc, hr, hn⟩ := h.cell
  have hrr := h.hr
  have := hb.size
  exact ⟨h.sp.below hb, h.ok, ⟨a, m, c, by rw [(bcellB hb).1 _ _ hrr]; exact hc, hr.below hb (Nat.le_refl _), hn⟩, by rw [(bcellB hb).2 _ _ hrr]; exact h.free, h.hp, h.hg, h.hb, by omega, h.below.trans (hb.mono h.below.size)⟩
/-- behind a call, its value still to be put into the block -/
structure Half (W wr : World) (p g base r : Nat) (v : Value) (l2 : List Int) : Prop where
  sp : SpaceAt wr W.heap.size p g l2
  ok : Legal l2
  rf : RefAt wr base v l2
  ne : RefNe v r
  cell : ∃ u, wr.cell? ⟨r, 0, none⟩ = some u
  free : wr.frozen? ⟨r, 0, none⟩ = false
  hp : p < base
  hg : g < base
  hb : base ≤ r
  hr : r < wr.heap.size
  below : Below W.heap.size W wr
theorem Run.pass {W wr w2 : World} {p g base r : Nat} {v : Value} {ls l2 : List Int} (h : Run W wr p g base r ls) (h2 : SpaceAt w2 W.heap.size p g l2) (hl : Legal l2) (hr2 : RefAt w2 base v l2)
    (hn : RefNe v r) (hg2 : wr.grownBy w2 (some g)) : Half W w2 p g base r v l2 := by
  obtain ⟨a0, m0, c0, hc0, _, _⟩ := h.cell
  have hp := h.hp
  have hg := h.hg
  have hb := h.hb
  have hr := h.hr
  have hsz := hg2.size
  have hgW := h.sp.hg
  exact ⟨h2, hl, hr2, hn, ⟨_, grown_cell hg2 hc0 (by simp; omega)⟩, grown_frozen hg2 h.hr h.free (by simp; omega), hp, hg, hb, by omega, h.below.trans (grown_below hg2 (fun k hk => by simp at hk; omega) h.below.size)⟩
theorem Run.alloc {W wr : World} {p g base r : Nat} {ls : List Int} (h : Run W wr p g base r ls) (o : Obj) : Run W (wr.alloc o) p g base r ls := by
  obtain ⟨a, m, c, hc, hr, hn⟩ := h.cell
  have hrr := h.hr
  exact ⟨h.sp.alloc _, h.ok, ⟨a, m, c, by rw [World.cell?_alloc_lt _ _ _ hrr]; exact hc, hr.alloc _, hn⟩, by rw [World.frozen?_alloc_old _ _ _ (Nat.ne_of_lt hrr)]; exact h.free, h.hp, h.hg, h.hb, by simp; omega, h.below.alloc h.below.size _⟩
theorem Half.alloc {W wr : World} {p g base r : Nat} {v : Value} {ls : List Int} (h : Half W wr p g base r v ls) (o : Obj) : Half W (wr.alloc o) p g base r v ls := by
  obtain ⟨u, hc⟩ := h.cell
  have hrr := h.hr
  exact ⟨h.sp.alloc _, h.ok, h.rf.alloc _, h.ne, ⟨u, by rw [World.cell?_alloc_lt _ _ _ hrr]; exact hc⟩, by rw [World.frozen?_alloc_old _ _ _ (Nat.ne_of_lt hrr)]; exact h.free, h.hp, h.hg, h.hb, by simp; omega, h.below.alloc h.below.size _⟩
theorem Half.next {W wr : World} {p g base r m c : Nat} {a : Option Addr} {l2 : List Int} (h : Half W wr p g base r (.agg #[.slice a m c]) l2) : Run W (wr.setCell ⟨r, 0, none⟩ (.slice a m c)) p g base r l2 := by
  obtain ⟨u, hu⟩ := h.cell
  have hp := h.hp
  have hg := h.hg
  have hb := h.hb
  have hr := h.hr
  have hW := h.sp.hg
  exact ⟨h.sp.other _ _ _ (by omega) (by omega), h.ok, ⟨a, m, c, World.cell?_setCell_same _ _ _ hu, h.rf.setNe h.ne, h.ne⟩, by simpa using h.free, hp, hg, hb, by simpa using hr, h.below.setCell (by simp; omega) _⟩
theorem Half.set {W wr : World} {p g base r x : Nat} {v u : Value} {l2 : List Int} (h : Half W wr p g base r v l2) (hx : x ≠ r) (hb : base ≤ x) (hn : RefNe v x) : Half W (wr.setCell ⟨x, 0, none⟩ u) p g base r v l2 := by
  obtain ⟨u0, hu⟩ := h.cell
  have hp := h.hp
  have hg := h.hg
  have hW := h.sp.hg
  exact ⟨h.sp.other _ _ _ (by omega) (by omega), h.ok, h.rf.setNe hn, h.ne, ⟨u0, by rw [World.cell?_setCell_other _ _ _ _ (by simp [hx])]; exact hu⟩, by simpa using h.free, hp, hg, h.hb, by simpa using h.hr, h.below.setCell (by simp; omega) _⟩
theorem RefAt.apartNew {w : World} {base r : Nat} {v : Value} {l : List Int} (h : RefAt w base v l) (hr : w.heap.size ≤ r) : RefNe v r := by
  intro sl e hs
  obtain ⟨sl', rfl, h1⟩ := h
  obtain rfl : sl' = sl := by simpa using e
  have := (World.ownsRow.lt h1 r hs).2
  omega
/-- a call of the space alone -/
theorem Run.alone {W wr w2 : World} {p g base r : Nat} {ls l2 : List Int} (h : Run W wr p g base r ls) (h2 : SpaceAt w2 W.heap.size p g l2) (hg2 : wr.grownBy w2 (some g)) :
    (∃ a m c, w2.cell? ⟨r, 0, none⟩ = some (.slice a m c) ∧ RefAt w2 base (.agg #[.slice a m c]) ls ∧ RefNe (.agg #[.slice a m c]) r) ∧ w2.frozen? ⟨r, 0, none⟩ = false ∧ r < w2.heap.size ∧ Below W.heap.size W w2 := by
  obtain ⟨a0, m0, c0, hc0, hr0, hn0⟩ := h.cell
  have hg := h.hg
  have hb := h.hb
  have hr := h.hr
  have hsz := hg2.size
  have hgW := h.sp.hg
  refine ⟨⟨a0, m0, c0, grown_cell hg2 hc0 (by simp; omega), hr0.keep hg2 hg, hn0⟩, grown_frozen hg2 h.hr h.free (by simp; omega), by omega, ?_⟩
  exact h.below.trans (grown_below hg2 (fun k hk => by simp at hk; omega) h.below.size)

/-- the calls that are to come, the element at k -/
theorem act_at {W : World} {v : Value} {l : List (Int × Int)} (h : RowAt eAct W v l) : ∃ a c, v = .slice a l.length c ∧ ∀ (k : Nat) x, l[k]? = some x → ∃ b o, a = some ⟨b, o, none⟩ ∧ W.cell? ⟨b, o + k * 2, none⟩ = some (.int .i64 x.1) ∧ W.cell? ⟨b, o + k * 2 + 1, none⟩ = some (.int .i64 x.2) := by
  obtain ⟨a, c, rfl, _, _, h3⟩ := h
  refine ⟨a, c, rfl, fun k x hx => ?_⟩
  rcases h3 with rfl | ⟨b, o, rfl, hc⟩
  · simp at hx
  · have h0 := hc k x hx 0 _ rfl
    have h1 := hc k x hx 1 _ rfl
    exact ⟨b, o, rfl, by simpa using h0, by simpa [Nat.add_assoc] using h1⟩

set_option maxRecDepth 100000 in
set_option maxHeartbeats 1000000 in
theorem spaceWhole_walk (n : Int) (v : Value) (acts : List (Int × Int)) (W : World) (hact : RowAt eAct W v acts) (A : Nat → Addr) (hsent : Sents W A) :
    Calls Tryd.prog 7 #[.int .i64 n, v] W fun e w' => e = .returned (.bool true) ∧ Below W.heap.size W w' := by
  obtain ⟨va, vc, rfl, hact2⟩ := act_at hact
  have HA := Lib.hid hact2
  have HN := Lib.hid hsent
  clear hact hact2 hsent
  go_enter Tryd.func7, Tryd.ntmps7
  go_wp2_with (go_at_call 15; refine (made_any n _).mono ?_; rintro e w1 ⟨p, g, base, a1, m1, c1, M, h8, rfl, hs1, hr1, hg1, hb1, hn1⟩)
  have HR0 := Lib.hid (Run.start h8 hs1 hr1 hn1 hg1 hb1)
  clear hs1 hr1 hg1 hb1 hn1
  generalize hr0 : w1.heap.size = r at *
  clear hr0
  go_loopw [8] (fun i wr => ∃ k : Nat, ∃ ls, k ≤ acts.length ∧ i = .int .i64 k ∧ Run W wr p g base r ls) (fun i _ => acts.length - (intOf i).toNat)
  case atStart => exact ⟨0, _, by omega, rfl, HR0.out⟩
  case round =>
    obtain ⟨k, ls, hk, rfl, hrun⟩ := hrel
    have HRUN := Lib.hid hrun
    clear hrun HR0
    by_cases hlt : k < acts.length ∧ k < 80
    · obtain ⟨hlt, h80⟩ := hlt
      obtain ⟨x, hx⟩ := getElem?_some_of_lt hlt
      obtain ⟨b, o, rfl, ca0, ca1⟩ := HA.out k x hx
      have hki : (k : Int) < (acts.length : Int) := by omega
      have hk80 : (k : Int) < 80 := by omega
      clear hx
      obtain ⟨ra, rm, rc, hcr, hrr, hrn⟩ := HRUN.out.cell
      have hfr := HRUN.out.free
      have hbW := HRUN.out.below
      have m0 : wr.cell? ⟨b, o + k * 2, none⟩ = some (.int .i64 x.1) := (hbW.cell (World.block_lt_of_cell? W _ ca0)).trans ca0
      have m1 : wr.cell? ⟨b, o + k * 2 + 1, none⟩ = some (.int .i64 x.2) := (hbW.cell (World.block_lt_of_cell? W _ ca1)).trans ca1
      have hgW := HRUN.out.sp.hg
      have hbg := World.block_lt_of_cell? W _ ca0
      have hrg := HRUN.out.hg
      have hrb := HRUN.out.hb
      have hrs := HRUN.out.hr
      simp only at hbg
      have n0 := Near.cell (w := wr.drew) (row := some g) hcr (by simp; omega)
      have n1 := Near.cell (w := wr.drew) (row := some g) m0 (by simp; omega)
      have n2 := Near.cell (w := wr.drew) (row := some g) m1 (by simp; omega)
      have HRR := Lib.hid hrr
      have HRN := Lib.hid hrn
      clear hrr hrn hbW m0 m1 ca0 ca1
      go_wp2
      refine wp_region_mix (fun w' => ∃ x : Near wr.drew (some g), w' = x.world) [10] 11 (by kernel_rfl) rfl ?_
      refine mix_reads_lit [0, 1, 2, 3, 4, 5] 5 (by kernel_rfl) (by kernel_rfl) (by kernel_rfl) (by kernel_rfl) rfl (NearC.of (World.grownBy.refl _ _)) ?_
      simp only [pick, List.filterMap_cons, List.filterMap_nil, List.getElem?_cons_succ, List.getElem?_cons_zero]
      repeat (first | go_big_quiet_step (fail) | quiet_step (fail))
      refine wpQuiet_nil ?_
      refine mix_deed_lit 6 4 (by kernel_rfl) (by kernel_rfl) rfl (fun K hK => ?_)
      simp only [comesUp, List.getElem?_cons_succ, List.getElem?_cons_zero]
      refine if_mk rfl ?_
      go_simp
      refine (step_any HRUN.out.below.drew HRUN.out.sp.drew HRR.out.drew hrg (by simp; omega) HRUN.out.ok x.1 x.2 A HN.out).mono ?_
      rintro e w2 ⟨a2, m2, c2, rfl, hs2, hr2, hg2, hn2⟩
      have hn2 := hn2 r (by simp; omega) HRN.out
      refine hK _ _ (fun _ _ => NearC.of hg2) ?_
      clear hK K
      have q1 : w2.cell? ⟨r, 0, none⟩ = some (.slice ra rm rc) := grown_cell hg2 hcr (by simp; omega)
      have q2 : w2.frozen? ⟨r, 0, none⟩ = false := grown_frozen hg2 (by simp; omega) hfr (by simp; omega)
      have HRUN2 := Lib.hid (HRUN.out.drew.next (v := .nilIface) hs2 (legal_step HRUN.out.ok x.1 x.2) hr2 hn2 hg2)
      have GG := Lib.hid hg2
      clear hs2 hr2 hg2 hn2
      refine mix_flat_lit [7, 8, 9] 1 (by kernel_rfl) (by kernel_rfl) (by kernel_rfl) (by kernel_rfl) rfl ?_
      simp only [pick, List.filterMap_cons, List.filterMap_nil, List.getElem?_cons_succ, List.getElem?_cons_zero]
      repeat (first | go_big_quiet_step (fail) | quiet_step (fail))
      refine wpQuiet_nil ?_
      refine mix_deed_lit 10 0 (by kernel_rfl) (by kernel_rfl) rfl (fun K hK => ?_)
      simp only [comesUp, List.getElem?_cons_succ, List.getElem?_cons_zero]
      refine if_mk rfl ?_
      go_simp
      refine hK _ _ (fun h => by simp [keeps] at h) ?_
      clear hK K
      refine mix_done_lit (by kernel_rfl) ?_
      go_wp2
      go_roundw
      case rel => exact ⟨k + 1, _, by omega, by go_num, HRUN2.out⟩
      case measure => simp [intOf]; omega
    · have hcase : k = acts.length ∨ (k < acts.length ∧ 80 ≤ k) := by omega
      obtain ⟨ra, rm, rc, hcr, hrr, hrn⟩ := HRUN.out.cell
      have hgW := HRUN.out.sp.hg
      have hrg := HRUN.out.hg
      have hrb := HRUN.out.hb
      have hrs := HRUN.out.hr
      have hlen := HRUN.out.sp.len
      have HWH := Lib.hid (whole ls HRUN.out.ok)
      have hf1 := freeOf_le ls ls.length
      have hu1 := usedOf_le ls ls.length
      have hl1 := leaveOf_le ls ls.length
      have e1 : IntKind.i64.wrap ((freeOf ls ls.length : Int) + ((usedOf ls ls.length).length : Int)) = (freeOf ls ls.length : Int) + ((usedOf ls ls.length).length : Int) := IntWalk.i64_in _ (by omega)
      have e2 : IntKind.i64.wrap ((freeOf ls ls.length : Int) + ((usedOf ls ls.length).length : Int) + (leaveOf ls ls.length : Int)) = (ls.length : Int) := by rw [IntWalk.i64_in _ (by omega)]; have := HWH.out; omega
      obtain ⟨ra', rc', hform, _⟩ := hrr.row
      obtain ⟨rfl, rfl, rfl⟩ : ra = ra' ∧ rm = ls.length ∧ rc = rc' := by simpa using hform
      have n0 := Near.cell (w := wr.drew) (row := none) hcr (by simp)
      have HRR := Lib.hid hrr
      have HBW := Lib.hid HRUN.out.below
      clear hrr hrn hform hlt
      rcases hcase with rfl | ⟨h1, h2⟩
      all_goals
        go_wp2
        have E1 := Lib.hid e1
        have E2 := Lib.hid e2
        clear e1 e2
        refine wp_region_mix (fun w' => ∃ x : Near wr.drew none, w' = x.world) [] 17 (by kernel_rfl) rfl ?_
        refine mix_reads_lit [0, 2, 6, 9, 10, 11] 11 (by kernel_rfl) (by kernel_rfl) (by kernel_rfl) (by kernel_rfl) rfl (NearC.of (World.grownBy.refl _ _)) ?_
        simp only [pick, List.filterMap_cons, List.filterMap_nil, List.getElem?_cons_succ, List.getElem?_cons_zero]
        repeat (first | go_big_quiet_step (fail) | quiet_step (fail))
        refine wpQuiet_nil ?_
        refine mix_deed_lit 1 10 (by kernel_rfl) (by kernel_rfl) rfl (fun K hK => ?_)
        simp only [comesUp, List.getElem?_cons_succ, List.getElem?_cons_zero]
        refine if_mk rfl ?_
        go_simp
        refine (free_any HRUN.out.sp.drew).mono ?_
        rintro e w3 ⟨rfl, rfl⟩
        refine hK _ _ (fun _ _ => NearC.of (World.grownBy.refl _ _)) ?_
        clear hK K
        refine mix_deed_lit 3 9 (by kernel_rfl) (by kernel_rfl) rfl (fun K hK => ?_)
        simp only [comesUp, List.getElem?_cons_succ, List.getElem?_cons_zero]
        refine if_mk rfl ?_
        go_simp
        refine (used_any HRUN.out.sp.drew).mono ?_
        rintro e w3 ⟨⟨v3, rfl, hv3⟩, hb3⟩
        obtain ⟨a3, c3, hv3', _, _⟩ := hv3.slice
        subst hv3'
        have g3 := grown_of_below hb3 (Nat.le_refl _) none
        refine hK _ _ (fun _ _ => NearC.of g3) ?_
        clear hK K
        have e1 := E1.out
        refine mix_reads_lit [4, 5] 7 (by kernel_rfl) (by kernel_rfl) (by kernel_rfl) (by kernel_rfl) rfl (NearC.of g3) ?_
        simp only [pick, List.filterMap_cons, List.filterMap_nil, List.getElem?_cons_succ, List.getElem?_cons_zero]
        repeat (first | go_big_quiet_step (fail) | quiet_step (fail))
        refine wpQuiet_nil ?_
        refine mix_deed_lit 7 6 (by kernel_rfl) (by kernel_rfl) rfl (fun K hK => ?_)
        simp only [comesUp, List.getElem?_cons_succ, List.getElem?_cons_zero]
        refine if_mk rfl ?_
        go_simp
        refine (refLeaving_any (HRR.out.drew.below hb3 (Nat.le_refl _)) HRUN.out.ok hlen).mono ?_
        rintro e w4 ⟨rfl, hb4⟩
        have hb34 := below_step hb3 hb4
        have g4 := grown_of_below hb34 (Nat.le_refl _) none
        refine hK _ _ (fun _ _ => NearC.of g4) ?_
        clear hK K
        have e2 := E2.out
        refine mix_reads_lit [8, 12, 13] 3 (by kernel_rfl) (by kernel_rfl) (by kernel_rfl) (by kernel_rfl) rfl (NearC.of g4) ?_
        simp only [pick, List.filterMap_cons, List.filterMap_nil, List.getElem?_cons_succ, List.getElem?_cons_zero]
        repeat (first | go_big_quiet_step (fail) | quiet_step (fail))
        refine wpQuiet_nil ?_
        refine mix_deed_lit 14 2 (by kernel_rfl) (by kernel_rfl) rfl (fun K hK => ?_)
        simp only [comesUp, List.getElem?_cons_succ, List.getElem?_cons_zero]
        refine if_mk rfl ?_
        go_simp
        refine (awake_any _).mono ?_
        rintro e w5 ⟨rfl, hb5⟩
        have hb35 := below_step hb34 hb5
        have g5 := grown_of_below hb35 (Nat.le_refl _) none
        refine hK _ _ (fun _ _ => NearC.of g5) ?_
        clear hK K
        refine mix_reads_lit [15, 16] 0 (by kernel_rfl) (by kernel_rfl) (by kernel_rfl) (by kernel_rfl) rfl (NearC.of g5) ?_
        simp only [pick, List.filterMap_cons, List.filterMap_nil, List.getElem?_cons_succ, List.getElem?_cons_zero]
        repeat (first | go_big_quiet_step (fail) | quiet_step (fail))
        refine wpQuiet_nil ?_
        refine mix_done_lit (by kernel_rfl) ?_
        have HF := Lib.hid (HBW.out.drew.trans (hb35.mono HBW.out.size))
        clear g3 g4 g5 hb3 hb4 hb5 hb34 hb35 e1 e2
        go_wp2
        go_ret
        exact ⟨rfl, HF.out⟩

set_option maxRecDepth 100000 in
set_option maxHeartbeats 2000000 in
theorem spaceWaits_walk (n id : Int) (v : Value) (acts : List (Int × Int)) (W : World) (hact : RowAt eAct W v acts) (A : Nat → Addr) (hsent : Sents W A) :
    Calls Tryd.prog 4 #[.int .i64 n, v, .int .i64 id] W fun e w' => e = .returned (.bool true) ∧ Below W.heap.size W w' := by
  obtain ⟨va, vc, rfl, hact2⟩ := act_at hact
  have HA := Lib.hid hact2
  have HN := Lib.hid hsent
  clear hact hact2 hsent
  go_enter Tryd.func4, Tryd.ntmps4
  go_wp2_with (go_at_call 15; refine (made_any n _).mono ?_; rintro e w1 ⟨p, g, base, a1, m1, c1, M, h8, rfl, hs1, hr1, hg1, hb1, hn1⟩)
  have HR0 := Lib.hid (Run.start h8 hs1 hr1 hn1 hg1 hb1)
  clear hs1 hr1 hg1 hb1 hn1
  generalize hr0 : w1.heap.size = r at *
  clear hr0
  go_loopw [10] (fun i wr => ∃ k : Nat, ∃ ls, k ≤ acts.length ∧ i = .int .i64 k ∧ ls.length = M ∧ Run W wr p g base r ls) (fun i _ => acts.length - (intOf i).toNat)
  case atStart => exact ⟨0, _, by omega, rfl, fresh0_length M, HR0.out⟩
  case round =>
    obtain ⟨k, ls, hk, rfl, hlsM, hrun⟩ := hrel
    have HRUN := Lib.hid hrun
    have HLM := Lib.hid hlsM
    clear hrun HR0 hlsM
    by_cases hlt : k < acts.length ∧ k < 80
    · obtain ⟨hlt, h80⟩ := hlt
      obtain ⟨x, hx⟩ := getElem?_some_of_lt hlt
      obtain ⟨b, o, rfl, ca0, ca1⟩ := HA.out k x hx
      have hki : (k : Int) < (acts.length : Int) := by omega
      have hk80 : (k : Int) < 80 := by omega
      clear hx
      obtain ⟨ra, rm, rc, hcr, hrr, hrn⟩ := HRUN.out.cell
      have hfr := HRUN.out.free
      have hbW := HRUN.out.below
      have m0 : wr.cell? ⟨b, o + k * 2, none⟩ = some (.int .i64 x.1) := (hbW.cell (World.block_lt_of_cell? W _ ca0)).trans ca0
      have m1 : wr.cell? ⟨b, o + k * 2 + 1, none⟩ = some (.int .i64 x.2) := (hbW.cell (World.block_lt_of_cell? W _ ca1)).trans ca1
      have hgW := HRUN.out.sp.hg
      have hbg := World.block_lt_of_cell? W _ ca0
      have hrg := HRUN.out.hg
      have hrb := HRUN.out.hb
      have hrs := HRUN.out.hr
      simp only at hbg
      have n0 := Near.cell (w := wr.drew) (row := some g) hcr (by simp; omega)
      have n1 := Near.cell (w := wr.drew) (row := some g) m0 (by simp; omega)
      have n2 := Near.cell (w := wr.drew) (row := some g) m1 (by simp; omega)
      have HRR := Lib.hid hrr
      have HRN := Lib.hid hrn
      clear hrr hrn hbW m0 m1 ca0 ca1
      go_wp2
      refine wp_region_mix (fun w' => ∃ x : Near wr.drew (some g), w' = x.world) [10] 11 (by kernel_rfl) rfl ?_
      refine mix_reads_lit [0, 1, 2, 3, 4, 5] 5 (by kernel_rfl) (by kernel_rfl) (by kernel_rfl) (by kernel_rfl) rfl (NearC.of (World.grownBy.refl _ _)) ?_
      simp only [pick, List.filterMap_cons, List.filterMap_nil, List.getElem?_cons_succ, List.getElem?_cons_zero]
      repeat (first | go_big_quiet_step (fail) | quiet_step (fail))
      refine wpQuiet_nil ?_
      refine mix_deed_lit 6 4 (by kernel_rfl) (by kernel_rfl) rfl (fun K hK => ?_)
      simp only [comesUp, List.getElem?_cons_succ, List.getElem?_cons_zero]
      refine if_mk rfl ?_
      go_simp
      refine (step_any HRUN.out.below.drew HRUN.out.sp.drew HRR.out.drew hrg (by simp; omega) HRUN.out.ok x.1 x.2 A HN.out).mono ?_
      rintro e w2 ⟨a2, m2, c2, rfl, hs2, hr2, hg2, hn2⟩
      have hn2 := hn2 r (by simp; omega) HRN.out
      refine hK _ _ (fun _ _ => NearC.of hg2) ?_
      clear hK K
      have q1 : w2.cell? ⟨r, 0, none⟩ = some (.slice ra rm rc) := grown_cell hg2 hcr (by simp; omega)
      have q2 : w2.frozen? ⟨r, 0, none⟩ = false := grown_frozen hg2 (by simp; omega) hfr (by simp; omega)
      have HRUN2 := Lib.hid (HRUN.out.drew.next (v := .nilIface) hs2 (legal_step HRUN.out.ok x.1 x.2) hr2 hn2 hg2)
      have GG := Lib.hid hg2
      clear hs2 hr2 hg2 hn2
      refine mix_flat_lit [7, 8, 9] 1 (by kernel_rfl) (by kernel_rfl) (by kernel_rfl) (by kernel_rfl) rfl ?_
      simp only [pick, List.filterMap_cons, List.filterMap_nil, List.getElem?_cons_succ, List.getElem?_cons_zero]
      repeat (first | go_big_quiet_step (fail) | quiet_step (fail))
      refine wpQuiet_nil ?_
      refine mix_deed_lit 10 0 (by kernel_rfl) (by kernel_rfl) rfl (fun K hK => ?_)
      simp only [comesUp, List.getElem?_cons_succ, List.getElem?_cons_zero]
      refine if_mk rfl ?_
      go_simp
      refine hK _ _ (fun h => by simp [keeps] at h) ?_
      clear hK K
      refine mix_done_lit (by kernel_rfl) ?_
      have HLM2 : Hid ((stepL ls x.1 x.2).length = M) := Lib.hid (by rw [stepL_length]; exact HLM.out)
      go_wp2
      go_roundw
      case rel => exact ⟨k + 1, _, by omega, by go_num, HLM2.out, HRUN2.out⟩
      case measure => simp [intOf]; omega
    · have hcase : k = acts.length ∨ (k < acts.length ∧ 80 ≤ k) := by omega
      obtain ⟨ra, rm, rc, hcr, hrr, hrn⟩ := HRUN.out.cell
      have hgW := HRUN.out.sp.hg
      have hrg := HRUN.out.hg
      have hrb := HRUN.out.hb
      have hrs := HRUN.out.hr
      have hrf := HRUN.out.free
      have hlen := HRUN.out.sp.len
      have HRR := Lib.hid hrr
      have HRN := Lib.hid hrn
      have HBW := Lib.hid HRUN.out.below
      clear hrr hrn hlt
      rcases hcase with rfl | ⟨h1, h2⟩
      all_goals
        go_wp2_with (go_at_call 17; refine (fresh_any HRUN.out.sp id).mono ?_; rintro e w3 ⟨rfl, rfl⟩)
        have hrW : W.heap.size ≤ r := by omega
        refine (give_any HRUN.out.sp id A (HN.out.below HBW.out)).mono ?_
        rintro e w3 ⟨⟨ev, pages, rfl, he3⟩, hs3, hg3⟩
        have hb3 := HBW.out.trans (grown_below hg3 (fun k hk => by simp at hk; omega) HBW.out.size)
        simp only []
        by_cases hgc : giveC ls id = 0
        · have hst := Waits.start (show ls.length ≤ 16 by have := HLM.out; omega) HRUN.out.ok id hgc
          rw [hgc] at he3
          obtain ⟨rfl, _⟩ := he3.isNil
          have HST := Lib.hid hst.1
          have h0id := hst.2
          have HS3 := Lib.hid hs3
          have HB3 := Lib.hid hb3
          clear hst hs3 hg3 hb3 he3 hgc
          generalize hfr : freshS ls id = fr at *
          clear hfr
          go_wp2
          go_loopw [12, 13] (fun f i wl => ∃ j : Nat, ∃ l2 fd, j ≤ 20 ∧ i = .int .i64 j ∧ f = .bool fd ∧ SpaceAt wl W.heap.size p g l2 ∧ Waits fr id j l2 fd ∧ Below W.heap.size W wl) (fun _ i _ => 20 - (intOf i).toNat)
          case atStart => exact ⟨0, _, false, by omega, rfl, rfl, HS3.out, HST.out, HB3.out⟩
          case round =>
            obtain ⟨j, l2, fd, hj, rfl, rfl, hs5, hw5, hb5⟩ := hrel
            have HS5 := Lib.hid hs5
            have HW5 := Lib.hid hw5
            have HB5 := Lib.hid hb5
            clear hs5 hw5 hb5 HST HS3 HB3
            by_cases hj20 : j < 20
            · have hj20' : (j : Int) < 20 := by omega
              go_wp2_with fail
              refine (take_any HS5.out A (HN.out.below HB5.out)).mono ?_
              rintro e w6 ⟨ev, pages, rfl, he6, hs6, hg6⟩
              simp only []
              have HB6 := Lib.hid (HB5.out.trans (grown_below hg6 (fun k hk => by simp at hk; omega) HB5.out.size))
              have HS6 := Lib.hid hs6
              have HW6 := Lib.hid (HW5.out.next h0id)
              clear hs6 hg6
              generalize takeL l2 = l3 at *
              by_cases htc : takeC l2 = 0
              · rw [htc] at he6
                obtain ⟨rfl, _⟩ := he6.isNil
                clear he6
                have HT := Lib.hid htc
                clear htc
                generalize hti : takeI l2 = ti at *
                clear hti
                by_cases hid : ti = id
                · subst hid
                  cases fd
                  all_goals
                    go_wp2
                    go_roundw
                    case rel => exact ⟨j + 1, _, true, by omega, by go_num, rfl, HS6.out, by have := HW6.out; simpa [HT.out] using this, HB6.out⟩
                    case measure => simp [intOf]; omega
                · have hid2 : (ti == id) = false := by simpa using hid
                  clear hid
                  cases fd
                  · go_wp2
                    go_roundw
                    case rel => exact ⟨j + 1, _, false, by omega, by go_num, rfl, HS6.out, by have := HW6.out; simpa [show ¬ ti = id by simpa using hid2] using this, HB6.out⟩
                    case measure => simp [intOf]; omega
                  · go_wp2
                    go_roundw
                    case rel => exact ⟨j + 1, _, true, by omega, by go_num, rfl, HS6.out, by have := HW6.out; simpa using this, HB6.out⟩
                    case measure => simp [intOf]; omega
              · obtain ⟨te, xe, rfl⟩ := he6.iface htc
                clear he6
                have HT := Lib.hid htc
                clear htc
                cases fd
                · go_wp2
                  go_roundw
                  case rel => exact ⟨j + 1, _, false, by omega, by go_num, rfl, HS6.out, by have := HW6.out; simpa [HT.out] using this, HB6.out⟩
                  case measure => simp [intOf]; omega
                · go_wp2
                  go_roundw
                  case rel => exact ⟨j + 1, _, true, by omega, by go_num, rfl, HS6.out, by have := HW6.out; simpa using this, HB6.out⟩
                  case measure => simp [intOf]; omega
            · have hj2 : j = 20 := by omega
              subst hj2
              obtain rfl := HW5.out.last
              go_wp2_with (go_at_call 11; refine (awake_any _).mono ?_; rintro e w7 ⟨rfl, hb7⟩)
              go_ret
              exact ⟨rfl, HB5.out.trans (hb7.mono HB5.out.size)⟩
        · obtain ⟨te, xe, rfl⟩ := he3.iface hgc
          clear he3 hgc
          have HB3 := Lib.hid hb3
          clear hb3 hs3 hg3
          go_wp2_with (go_at_call 11; refine (awake_any _).mono ?_; rintro e w7 ⟨rfl, hb7⟩)
          go_ret
          exact ⟨rfl, HB3.out.trans (hb7.mono HB3.out.size)⟩

set_option maxRecDepth 100000 in
set_option maxHeartbeats 2000000 in
theorem spaceBack_walk (n : Int) (v vm : Value) (acts acts2 : List (Int × Int)) (W : World) (hact : RowAt eAct W v acts) (hactm : RowAt eAct W vm acts2) (A : Nat → Addr) (hsent : Sents W A) :
    Calls Tryd.prog 6 #[.int .i64 n, v, vm] W fun e w' => e = .returned (.bool true) ∧ Below W.heap.size W w' := by
  obtain ⟨va, vc, rfl, hact2⟩ := act_at hact
  have HA := Lib.hid hact2
  have HN := Lib.hid hsent
  clear hact hact2 hsent
  obtain ⟨vb, vd, rfl, hact3⟩ := act_at hactm
  have HA2 := Lib.hid hact3
  clear hact3 hactm
  go_enter Tryd.func6, Tryd.ntmps6
  go_wp2_with (go_at_call 15; refine (made_any n _).mono ?_; rintro e w1 ⟨p, g, base, a1, m1, c1, M, h8, rfl, hs1, hr1, hg1, hb1, hn1⟩)
  have HR0 := Lib.hid (Run.start h8 hs1 hr1 hn1 hg1 hb1)
  clear hs1 hr1 hg1 hb1 hn1
  generalize hr0 : w1.heap.size = r at *
  clear hr0
  go_loopw [10] (fun i wr => ∃ k : Nat, ∃ ls, k ≤ acts.length ∧ i = .int .i64 k ∧ ls.length = M ∧ Run W wr p g base r ls) (fun i _ => acts.length - (intOf i).toNat)
  case atStart => exact ⟨0, _, by omega, rfl, fresh0_length M, HR0.out⟩
  case round =>
    obtain ⟨k, ls, hk, rfl, hlsM, hrun⟩ := hrel
    have HRUN := Lib.hid hrun
    have HLM := Lib.hid hlsM
    clear hrun HR0 hlsM
    by_cases hlt : k < acts.length ∧ k < 80
    · obtain ⟨hlt, h80⟩ := hlt
      obtain ⟨x, hx⟩ := getElem?_some_of_lt hlt
      obtain ⟨b, o, rfl, ca0, ca1⟩ := HA.out k x hx
      have hki : (k : Int) < (acts.length : Int) := by omega
      have hk80 : (k : Int) < 80 := by omega
      clear hx
      obtain ⟨ra, rm, rc, hcr, hrr, hrn⟩ := HRUN.out.cell
      have hfr := HRUN.out.free
      have hbW := HRUN.out.below
      have m0 : wr.cell? ⟨b, o + k * 2, none⟩ = some (.int .i64 x.1) := (hbW.cell (World.block_lt_of_cell? W _ ca0)).trans ca0
      have m1 : wr.cell? ⟨b, o + k * 2 + 1, none⟩ = some (.int .i64 x.2) := (hbW.cell (World.block_lt_of_cell? W _ ca1)).trans ca1
      have hgW := HRUN.out.sp.hg
      have hbg := World.block_lt_of_cell? W _ ca0
      have hrg := HRUN.out.hg
      have hrb := HRUN.out.hb
      have hrs := HRUN.out.hr
      simp only at hbg
      have n0 := Near.cell (w := wr.drew) (row := some g) hcr (by simp; omega)
      have n1 := Near.cell (w := wr.drew) (row := some g) m0 (by simp; omega)
      have n2 := Near.cell (w := wr.drew) (row := some g) m1 (by simp; omega)
      have HRR := Lib.hid hrr
      have HRN := Lib.hid hrn
      clear hrr hrn hbW m0 m1 ca0 ca1
      go_wp2
      refine wp_region_mix (fun w' => ∃ x : Near wr.drew (some g), w' = x.world) [10] 11 (by kernel_rfl) rfl ?_
      refine mix_reads_lit [0, 1, 2, 3, 4, 5] 5 (by kernel_rfl) (by kernel_rfl) (by kernel_rfl) (by kernel_rfl) rfl (NearC.of (World.grownBy.refl _ _)) ?_
      simp only [pick, List.filterMap_cons, List.filterMap_nil, List.getElem?_cons_succ, List.getElem?_cons_zero]
      repeat (first | go_big_quiet_step (fail) | quiet_step (fail))
      refine wpQuiet_nil ?_
      refine mix_deed_lit 6 4 (by kernel_rfl) (by kernel_rfl) rfl (fun K hK => ?_)
      simp only [comesUp, List.getElem?_cons_succ, List.getElem?_cons_zero]
      refine if_mk rfl ?_
      go_simp
      refine (step_any HRUN.out.below.drew HRUN.out.sp.drew HRR.out.drew hrg (by simp; omega) HRUN.out.ok x.1 x.2 A HN.out).mono ?_
      rintro e w2 ⟨a2, m2, c2, rfl, hs2, hr2, hg2, hn2⟩
      have hn2 := hn2 r (by simp; omega) HRN.out
      refine hK _ _ (fun _ _ => NearC.of hg2) ?_
      clear hK K
      have q1 : w2.cell? ⟨r, 0, none⟩ = some (.slice ra rm rc) := grown_cell hg2 hcr (by simp; omega)
      have q2 : w2.frozen? ⟨r, 0, none⟩ = false := grown_frozen hg2 (by simp; omega) hfr (by simp; omega)
      have HRUN2 := Lib.hid (HRUN.out.drew.next (v := .nilIface) hs2 (legal_step HRUN.out.ok x.1 x.2) hr2 hn2 hg2)
      have GG := Lib.hid hg2
      clear hs2 hr2 hg2 hn2
      refine mix_flat_lit [7, 8, 9] 1 (by kernel_rfl) (by kernel_rfl) (by kernel_rfl) (by kernel_rfl) rfl ?_
      simp only [pick, List.filterMap_cons, List.filterMap_nil, List.getElem?_cons_succ, List.getElem?_cons_zero]
      repeat (first | go_big_quiet_step (fail) | quiet_step (fail))
      refine wpQuiet_nil ?_
      refine mix_deed_lit 10 0 (by kernel_rfl) (by kernel_rfl) rfl (fun K hK => ?_)
      simp only [comesUp, List.getElem?_cons_succ, List.getElem?_cons_zero]
      refine if_mk rfl ?_
      go_simp
      refine hK _ _ (fun h => by simp [keeps] at h) ?_
      clear hK K
      refine mix_done_lit (by kernel_rfl) ?_
      have HLM2 : Hid ((stepL ls x.1 x.2).length = M) := Lib.hid (by rw [stepL_length]; exact HLM.out)
      go_wp2
      go_roundw
      case rel => exact ⟨k + 1, _, by omega, by go_num, HLM2.out, HRUN2.out⟩
      case measure => simp [intOf]; omega
    · have hcase : k = acts.length ∨ (k < acts.length ∧ 80 ≤ k) := by omega
      obtain ⟨ra, rm, rc, hcr, hrr, hrn⟩ := HRUN.out.cell
      have hgW := HRUN.out.sp.hg
      have hrg := HRUN.out.hg
      have hrb := HRUN.out.hb
      have hrs := HRUN.out.hr
      have hrf := HRUN.out.free
      have hlen := HRUN.out.sp.len
      have HRR := Lib.hid hrr
      have HRN := Lib.hid hrn
      have HBW := Lib.hid HRUN.out.below
      clear hrr hrn hlt
      rcases hcase with rfl | ⟨h1, h2⟩
      all_goals
        go_wp2_with fail
        refine (commit_any HRUN.out.sp).mono ?_
        rintro e w3 ⟨⟨v3, rfl⟩, hs3, hg3⟩
        simp only []
        have hs3s := hg3.size
        have q1 : w3.cell? ⟨r, 0, none⟩ = some (.slice ra rm rc) := grown_cell hg3 hcr (by simp; omega)
        have q2 : w3.frozen? ⟨r, 0, none⟩ = false := grown_frozen hg3 hrs hrf (by simp; omega)
        have HB3 := Lib.hid (HBW.out.trans (grown_below hg3 (fun k hk => by simp at hk; omega) HBW.out.size))
        have HR3 := Lib.hid (HRR.out.keep hg3 hrg)
        have HS3 := Lib.hid hs3
        clear hs3 hg3
        go_wp2_with fail
        refine (refCommit_any HR3.out HRUN.out.ok hlen).mono ?_
        rintro e w4 ⟨⟨a4, m4, c4, rfl, hr4⟩, hb4⟩
        simp only []
        have hs4s := hb4.size
        have q3 : w4.cell? ⟨r, 0, none⟩ = some (.slice ra rm rc) := by rw [(bcellB hb4).1 _ _ (by omega)]; exact q1
        have q4 : w4.frozen? ⟨r, 0, none⟩ = false := by rw [(bcellB hb4).2 _ _ (by omega)]; exact q2
        have HS4 := Lib.hid ((HS3.out.below hb4).other r 0 (.slice a4 m4 c4) (by have := HRUN.out.hp; omega) (by omega))
        have HR4 := Lib.hid (hr4.setNe (o := 0) (x := .slice a4 m4 c4) (hr4.apart (r := r) (by omega)))
        have HN4 := Lib.hid (hr4.apart (r := r) (by omega))
        have HB4 := Lib.hid ((HB3.out.trans (hb4.mono HB3.out.size)).setCell (p := ⟨r, 0, none⟩) (by simp; omega) (.slice a4 m4 c4))
        clear hr4 hb4
        have hlm : (commitL ls).length = M := by rw [commitL_length]; exact HLM.out
        have HLC := Lib.hid (legal_commit HRUN.out.ok)
        have HRC := Lib.hid (roll_commit ls HRUN.out.ok)
        generalize commitL ls = lc at *
        go_wp2
        go_loopw [11] (fun i wl => ∃ j : Nat, ∃ l2, j ≤ acts2.length ∧ i = .int .i64 j ∧ SpaceAt wl W.heap.size p g l2 ∧ rollL l2 = lc ∧ RefAt wl base (.agg #[.slice a4 m4 c4]) lc ∧ wl.cell? ⟨r, 0, none⟩ = some (.slice a4 m4 c4) ∧ r < wl.heap.size ∧ Below W.heap.size W wl) (fun i _ => acts2.length - (intOf i).toNat)
        case atStart => exact ⟨0, lc, by omega, rfl, HS4.out, HRC.out, HR4.out.mono (by omega), World.cell?_setCell_same _ _ _ q3, by simp; omega, HB4.out⟩
        case round =>
          obtain ⟨j, l2, hj, rfl, hs5, hro5, hr5, hc5, hrl5, hb5⟩ := hrel
          have HS5 := Lib.hid hs5
          have HO5 := Lib.hid hro5
          have HR5 := Lib.hid hr5
          have HB5 := Lib.hid hb5
          clear hs5 hro5 hr5 hb5 q1 q2 q3 q4
          by_cases hlt : j < acts2.length ∧ j < 80
          · obtain ⟨hlt, h80⟩ := hlt
            obtain ⟨x, hx⟩ := getElem?_some_of_lt hlt
            obtain ⟨b, o, rfl, ca0, ca1⟩ := HA2.out j x hx
            have hki : (j : Int) < (acts2.length : Int) := by omega
            have hk80 : (j : Int) < 80 := by omega
            have m0 : wr.cell? ⟨b, o + j * 2, none⟩ = some (.int .i64 x.1) := (HB5.out.cell (World.block_lt_of_cell? W _ ca0)).trans ca0
            have m1 : wr.cell? ⟨b, o + j * 2 + 1, none⟩ = some (.int .i64 x.2) := (HB5.out.cell (World.block_lt_of_cell? W _ ca1)).trans ca1
            clear hx ca0 ca1
            by_cases hx0 : x.1 = 0
            · have hx1 : (x.1 == 0) = true := by simpa using hx0
              clear hx0
              go_wp2_with fail
              refine (take_any HS5.out A (HN.out.below HB5.out)).mono ?_
              rintro e w6 ⟨ev, pages, rfl, he6, hs6, hg6⟩
              simp only []
              have hs6s := hg6.size
              have HF := Lib.hid (And.intro hs6 (And.intro ((roll_take l2).trans HO5.out) (And.intro (HR5.out.keep hg6 hrg) (And.intro (grown_cell hg6 hc5 (by simp; omega)) (And.intro (Nat.lt_of_lt_of_le hrl5 hs6s) (HB5.out.trans (grown_below hg6 (fun k hk => by simp at hk; omega) HB5.out.size)))))))
              clear hs6 hg6 he6
              go_wp2
              go_roundw
              case rel => exact ⟨j + 1, _, by omega, by go_num, HF.out⟩
              case measure => simp [intOf]; omega
            · have hx1 : (x.1 == 0) = false := by simpa using hx0
              clear hx0
              go_wp2_with fail
              refine (give_any HS5.out x.2 A (HN.out.below HB5.out)).mono ?_
              rintro e w6 ⟨⟨ev, pages, rfl, he6⟩, hs6, hg6⟩
              simp only []
              have hs6s := hg6.size
              have HF := Lib.hid (And.intro hs6 (And.intro ((roll_give l2 x.2).trans HO5.out) (And.intro (HR5.out.keep hg6 hrg) (And.intro (grown_cell hg6 hc5 (by simp; omega)) (And.intro (Nat.lt_of_lt_of_le hrl5 hs6s) (HB5.out.trans (grown_below hg6 (fun k hk => by simp at hk; omega) HB5.out.size)))))))
              clear hs6 hg6 he6
              go_wp2
              go_roundw
              case rel => exact ⟨j + 1, _, by omega, by go_num, HF.out⟩
              case measure => simp [intOf]; omega
          · have hcase : j = acts2.length ∨ (j < acts2.length ∧ 80 ≤ j) := by omega
            clear hlt
            rcases hcase with rfl | ⟨h1, h2⟩
            all_goals
              go_wp2_with fail
              refine (roll_any HS5.out).mono ?_
              rintro e w6 ⟨⟨v6, rfl⟩, hs6, hg6⟩
              simp only []
              rw [HO5.out] at hs6
              have q6 : w6.cell? ⟨r, 0, none⟩ = some (.slice a4 m4 c4) := grown_cell hg6 hc5 (by simp; omega)
              have HS6 := Lib.hid hs6
              have HR6 := Lib.hid (HR5.out.keep hg6 hrg)
              have HB6 := Lib.hid (HB5.out.trans (grown_below hg6 (fun k hk => by simp at hk; omega) HB5.out.size))
              clear hs6 hg6
              go_wp2_with (first
                | (go_at_call 20; refine (same_any9 HS6.out HR6.out HLC.out).mono ?_; rintro e w7 ⟨rfl, hb7⟩)
                | (go_at_call 11; refine (awake_any _).mono ?_; rintro e w8 ⟨rfl, hb8⟩))
              go_ret
              exact ⟨rfl, (HB6.out.trans (hb7.mono HB6.out.size)).trans (hb8.mono (Nat.le_trans HB6.out.size hb7.size))⟩

set_option maxRecDepth 100000 in
set_option maxHeartbeats 2000000 in
theorem spacePlays_walk (n : Int) (v : Value) (acts : List (Int × Int)) (W : World) (hact : RowAt eAct W v acts) (A : Nat → Addr) (hsent : Sents W A) :
    Calls Tryd.prog 5 #[.int .i64 n, v] W fun e w' => e = .returned (.bool true) ∧ Below W.heap.size W w' := by
  obtain ⟨va, vc, rfl, hact2⟩ := act_at hact
  have HA := Lib.hid hact2
  have HN := Lib.hid hsent
  clear hact hact2 hsent
  go_enter Tryd.func5, Tryd.ntmps5
  go_wp2_with (go_at_call 15; refine (made_any n _).mono ?_; rintro e w1 ⟨p, g, base, a1, m1, c1, M, h8, rfl, hs1, hr1, hg1, hb1, hn1⟩)
  have HR0 := Lib.hid (Run.start h8 hs1 hr1 hn1 hg1 hb1)
  clear hs1 hr1 hg1 hb1 hn1
  generalize hr0 : w1.heap.size = r at *
  clear hr0
  go_loopw [8] (fun i wr => ∃ k : Nat, ∃ ls, k ≤ acts.length ∧ i = .int .i64 k ∧ ls.length = M ∧ Run W wr p g base r ls) (fun i _ => acts.length - (intOf i).toNat)
  case atStart => exact ⟨0, _, by omega, rfl, fresh0_length M, HR0.out⟩
  case round =>
    obtain ⟨k, ls, hk, rfl, hlsM, hrun⟩ := hrel
    have HRUN := Lib.hid hrun
    have HLM := Lib.hid hlsM
    clear hrun HR0 hlsM
    by_cases hlt : k < acts.length ∧ k < 80
    · obtain ⟨hlt, h80⟩ := hlt
      obtain ⟨x, hx⟩ := getElem?_some_of_lt hlt
      obtain ⟨b, o, rfl, ca0, ca1⟩ := HA.out k x hx
      have hki : (k : Int) < (acts.length : Int) := by omega
      have hk80 : (k : Int) < 80 := by omega
      clear hx
      obtain ⟨ra, rm, rc, hcr, hrr, hrn⟩ := HRUN.out.cell
      have hfr := HRUN.out.free
      have hbW := HRUN.out.below
      have m0 : wr.cell? ⟨b, o + k * 2, none⟩ = some (.int .i64 x.1) := (hbW.cell (World.block_lt_of_cell? W _ ca0)).trans ca0
      have m1 : wr.cell? ⟨b, o + k * 2 + 1, none⟩ = some (.int .i64 x.2) := (hbW.cell (World.block_lt_of_cell? W _ ca1)).trans ca1
      have hgW := HRUN.out.sp.hg
      have hbg := World.block_lt_of_cell? W _ ca0
      have hrg := HRUN.out.hg
      have hrb := HRUN.out.hb
      have hrs := HRUN.out.hr
      simp only at hbg
      have n0 := Near.cell (w := wr.drew) (row := some g) hcr (by simp; omega)
      have n1 := Near.cell (w := wr.drew) (row := some g) m0 (by simp; omega)
      have n2 := Near.cell (w := wr.drew) (row := some g) m1 (by simp; omega)
      have HRR := Lib.hid hrr
      have HRN := Lib.hid hrn
      have HC1 := Lib.hid ca1
      clear hrr hrn hbW ca0 ca1
      go_wp2
      refine wp_region_mix (fun w' => ∃ x : Near wr.drew (some g), w' = x.world) [] 13 (by kernel_rfl) rfl ?_
      refine mix_reads_lit [0, 1, 2, 3, 4, 5] 7 (by kernel_rfl) (by kernel_rfl) (by kernel_rfl) (by kernel_rfl) rfl (NearC.of (World.grownBy.refl _ _)) ?_
      simp only [pick, List.filterMap_cons, List.filterMap_nil, List.getElem?_cons_succ, List.getElem?_cons_zero]
      repeat (first | go_big_quiet_step (fail) | quiet_step (fail))
      refine wpQuiet_nil ?_
      clear n0 n1 n2
      refine mix_two_lit 6 10 6 (by kernel_rfl) (by kernel_rfl) rfl (fun K hK => ?_) (fun K hK => ?_)
      · simp only [comesUp, List.getElem?_cons_succ, List.getElem?_cons_zero]
        refine if_mk rfl ?_
        go_simp
        refine (step_any HRUN.out.below.drew HRUN.out.sp.drew HRR.out.drew hrg (by simp; omega) HRUN.out.ok x.1 x.2 A HN.out).mono ?_
        rintro e w2 ⟨a2, m2, c2, rfl, hs2, hr2, hg2, hn2⟩
        have hn2 := hn2 r (by simp; omega) HRN.out
        have GG := Lib.hid hg2
        refine hK _ _ (fun _ _ => NearC.of GG.out) ?_
        clear hK K
        have HRUN2 := Lib.hid (HRUN.out.drew.pass hs2 (legal_step HRUN.out.ok x.1 x.2) hr2 hn2 hg2)
        have hs2s := hg2.size
        simp at hs2s
        clear hs2 hr2 hg2 hn2
        refine mix_flat_lit [7, 8, 9] 3 (by kernel_rfl) (by kernel_rfl) (by kernel_rfl) (by kernel_rfl) rfl ?_
        simp only [pick, List.filterMap_cons, List.filterMap_nil, List.getElem?_cons_succ, List.getElem?_cons_zero]
        repeat (first | go_big_quiet_step (fail) | quiet_step (fail))
        refine wpQuiet_nil ?_
        refine mix_deed_lit 10 2 (by kernel_rfl) (by kernel_rfl) rfl (fun K hK => ?_)
        simp only [comesUp, List.getElem?_cons_succ, List.getElem?_cons_zero]
        refine if_mk rfl ?_
        go_simp
        refine hK _ _ (fun _ _ => NearC.of (grown_trans GG.out (grown_alloc _ _ _))) ?_
        clear hK K
        have HRUN3 := Lib.hid (HRUN2.out.alloc (.cells #[.slice none 0 0] 37))
        refine mix_deed_lit 11 1 (by kernel_rfl) (by kernel_rfl) rfl (fun K hK => ?_)
        simp only [comesUp, List.getElem?_cons_succ, List.getElem?_cons_zero]
        refine if_mk rfl ?_
        go_simp
        refine hK _ _ (fun _ _ => NearC.of (grown_trans GG.out (grown_alloc _ _ _))) ?_
        clear hK K
        refine mix_flat_lit [12] 0 (by kernel_rfl) (by kernel_rfl) (by kernel_rfl) (by kernel_rfl) rfl ?_
        simp only [pick, List.filterMap_cons, List.filterMap_nil, List.getElem?_cons_succ, List.getElem?_cons_zero]
        repeat (first | go_big_quiet_step (fail) | quiet_step (fail))
        refine wpQuiet_nil ?_
        refine mix_done_lit (by kernel_rfl) ?_
        have hxb : w2.heap.size ≠ r := by omega
        have HRUN4 := Lib.hid (HRUN2.out.alloc (.cells #[.slice a2 m2 c2] 37))
        have hx2 : (w2.alloc (.cells #[.slice a2 m2 c2] 37)).cell? ⟨w2.heap.size, 0, none⟩ = some (.slice a2 m2 c2) := by go_simp
        clear HRUN3 GG
        generalize w2.alloc (.cells #[.slice a2 m2 c2] 37) = w3 at *
        generalize w2.heap.size = xb at *
        have HLM2 : Hid ((stepL ls x.1 x.2).length = M) := Lib.hid (by rw [stepL_length]; exact HLM.out)
        obtain ⟨u3, hu3⟩ := HRUN4.out.cell
        have hf3 := HRUN4.out.free
        go_wp2
        have HR8 := Lib.hid HRUN4.out.next
        have hb3 := HRUN4.out.below
        have m8 : (w3.setCell ⟨r, 0, none⟩ (.slice a2 m2 c2)).cell? ⟨b, o + k * 2 + 1, none⟩ = some (.int .i64 x.2) := (HR8.out.below.cell (World.block_lt_of_cell? W _ HC1.out)).trans HC1.out
        have c8 : (w3.setCell ⟨r, 0, none⟩ (.slice a2 m2 c2)).cell? ⟨r, 0, none⟩ = some (.slice a2 m2 c2) := World.cell?_setCell_same _ _ _ hu3
        have HRF := Lib.hid (HRUN4.out.rf.setNe (o := 0) (x := .slice a2 m2 c2) HRUN4.out.ne)
        have HLG := Lib.hid HRUN4.out.ok
        clear hb3 hu3 hf3 HRUN4 hx2
        generalize w3.setCell ⟨r, 0, none⟩ (.slice a2 m2 c2) = w8 at *
        have n0 := Near.cell (w := w8.drew) (row := none) c8 (by simp)
        have n1 := Near.cell (w := w8.drew) (row := none) m8 (by simp)
        have hlen8 := HR8.out.sp.len
        refine wp_region_mix (fun w' => ∃ x : Near w8.drew none, w' = x.world) [] 25 (by kernel_rfl) rfl ?_
        refine mix_reads_lit [0, 1, 2, 3, 4] 20 (by kernel_rfl) (by kernel_rfl) (by kernel_rfl) (by kernel_rfl) rfl (NearC.of (World.grownBy.refl _ _)) ?_
        simp only [pick, List.filterMap_cons, List.filterMap_nil, List.getElem?_cons_succ, List.getElem?_cons_zero]
        repeat (first | go_big_quiet_step (fail) | quiet_step (fail))
        refine wpQuiet_nil ?_
        refine mix_deed_lit 5 19 (by kernel_rfl) (by kernel_rfl) rfl (fun K hK => ?_)
        simp only [comesUp, List.getElem?_cons_succ, List.getElem?_cons_zero]
        refine if_mk rfl ?_
        go_simp
        refine (same_any9 HR8.out.sp.drew HRF.out.drew HLG.out).mono ?_
        rintro e w9 ⟨rfl, hb9⟩
        have g9 := grown_of_below hb9 (Nat.le_refl _) none
        refine hK _ _ (fun _ _ => NearC.of g9) ?_
        clear hK K
        refine mix_reads_lit [6, 7, 8, 9, 10, 11, 12, 13, 14, 16, 17, 18, 19, 20, 21] 4 (by kernel_rfl) (by kernel_rfl) (by kernel_rfl) (by kernel_rfl) rfl (NearC.of g9) ?_
        simp only [pick, List.filterMap_cons, List.filterMap_nil, List.getElem?_cons_succ, List.getElem?_cons_zero]
        repeat (first | go_big_quiet_step (fail) | quiet_step (fail))
        refine wpQuiet_nil ?_
        refine mix_deed_lit 15 3 (by kernel_rfl) (by kernel_rfl) rfl (fun K hK => ?_)
        simp only [comesUp, List.getElem?_cons_succ, List.getElem?_cons_zero]
        refine if_mk rfl ?_
        go_simp
        refine (fresh_any (HR8.out.sp.drew.below hb9) x.2).mono ?_
        rintro e w10 ⟨rfl, rfl⟩
        refine hK _ _ (fun _ _ => NearC.of g9) ?_
        clear hK K
        refine mix_deed_lit 22 2 (by kernel_rfl) (by kernel_rfl) rfl (fun K hK => ?_)
        simp only [comesUp, List.getElem?_cons_succ, List.getElem?_cons_zero]
        refine if_mk rfl ?_
        go_simp
        refine (refFresh_any (HRF.out.drew.below hb9 (Nat.le_refl _)) HLG.out hlen8 x.2).mono ?_
        rintro e w10 ⟨rfl, hb10⟩
        have hb910 := below_step hb9 hb10
        have g10 := grown_of_below hb910 (Nat.le_refl _) none
        generalize freshS (stepL ls x.1 x.2) x.2 = fr at *
        refine hK _ _ (fun _ _ => NearC.of g10) ?_
        clear hK K
        refine mix_reads_lit [23, 24] 0 (by kernel_rfl) (by kernel_rfl) (by kernel_rfl) (by kernel_rfl) rfl (NearC.of g10) ?_
        simp only [pick, List.filterMap_cons, List.filterMap_nil, List.getElem?_cons_succ, List.getElem?_cons_zero]
        repeat (first | go_big_quiet_step (fail) | quiet_step (fail))
        refine wpQuiet_nil ?_
        refine mix_done_lit (by kernel_rfl) ?_
        have HR10 := Lib.hid (HR8.out.drew.later hb910)
        clear g9 g10 hb9 hb10 hb910 n0 n1
        go_wp2
        go_roundw
        case rel => exact ⟨k + 1, _, by omega, by go_num, HLM2.out, HR10.out⟩
        case measure => simp [intOf]; omega
      · simp only [comesUp, List.getElem?_cons_succ, List.getElem?_cons_zero]
        refine if_mk rfl ?_
        go_simp
        have ga := grown_alloc wr.drew (some g) (.cells #[.slice none 0 0] 37)
        refine hK _ _ (fun _ _ => NearC.of ga) ?_
        clear hK K
        have HRA := Lib.hid (HRUN.out.drew.alloc (.cells #[.slice none 0 0] 37))
        refine mix_deed_lit 6 5 (by kernel_rfl) (by kernel_rfl) rfl (fun K hK => ?_)
        simp only [comesUp, List.getElem?_cons_succ, List.getElem?_cons_zero]
        refine if_mk rfl ?_
        go_simp
        refine (step_any HRA.out.below HRA.out.sp (HRR.out.drew.alloc _) hrg (by simp; omega) HRUN.out.ok x.1 x.2 A HN.out).mono ?_
        rintro e w2 ⟨a2, m2, c2, rfl, hs2, hr2, hg2, hn2⟩
        have hnx := hn2 wr.heap.size (by simp) (HRR.out.apartNew (Nat.le_refl _))
        have hn2 := hn2 r (by simp; omega) HRN.out
        have GG := Lib.hid (grown_trans ga hg2)
        refine hK _ _ (fun _ _ => NearC.of GG.out) ?_
        clear hK K
        have HRUN2 := Lib.hid (HRA.out.pass hs2 (legal_step HRUN.out.ok x.1 x.2) hr2 hn2 hg2)
        have hs2s := hg2.size
        simp at hs2s
        have y1 : w2.cell? ⟨wr.heap.size, 0, none⟩ = some (.slice none 0 0) := grown_cell hg2 (by go_simp) (by simp; omega)
        have y2 : w2.frozen? ⟨wr.heap.size, 0, none⟩ = false := grown_frozen hg2 (by simp) (by go_simp) (by simp; omega)
        clear hs2 hr2 hg2 hn2 ga
        refine mix_flat_lit [7, 8, 9] 2 (by kernel_rfl) (by kernel_rfl) (by kernel_rfl) (by kernel_rfl) rfl ?_
        simp only [pick, List.filterMap_cons, List.filterMap_nil, List.getElem?_cons_succ, List.getElem?_cons_zero]
        repeat (first | go_big_quiet_step (fail) | quiet_step (fail))
        refine wpQuiet_nil ?_
        refine mix_deed_lit 11 1 (by kernel_rfl) (by kernel_rfl) rfl (fun K hK => ?_)
        simp only [comesUp, List.getElem?_cons_succ, List.getElem?_cons_zero]
        refine if_mk rfl ?_
        go_simp
        refine hK _ _ (fun _ _ => NearC.of (grown_new GG.out (by simp) _)) ?_
        clear hK K
        refine mix_flat_lit [12] 0 (by kernel_rfl) (by kernel_rfl) (by kernel_rfl) (by kernel_rfl) rfl ?_
        simp only [pick, List.filterMap_cons, List.filterMap_nil, List.getElem?_cons_succ, List.getElem?_cons_zero]
        repeat (first | go_big_quiet_step (fail) | quiet_step (fail))
        refine wpQuiet_nil ?_
        refine mix_done_lit (by kernel_rfl) ?_
        have hxb : wr.heap.size ≠ r := by omega
        have HRUN4 := Lib.hid (HRUN2.out.set (u := .slice a2 m2 c2) hxb (by omega) hnx)
        have hx2 : (w2.setCell ⟨wr.heap.size, 0, none⟩ (.slice a2 m2 c2)).cell? ⟨wr.heap.size, 0, none⟩ = some (.slice a2 m2 c2) := World.cell?_setCell_same _ _ _ y1
        clear HRUN2 GG HRA hnx y1 y2 hs2s
        generalize w2.setCell ⟨wr.heap.size, 0, none⟩ (.slice a2 m2 c2) = w3 at *
        generalize wr.heap.size = xb at *
        have HLM2 : Hid ((stepL ls x.1 x.2).length = M) := Lib.hid (by rw [stepL_length]; exact HLM.out)
        obtain ⟨u3, hu3⟩ := HRUN4.out.cell
        have hf3 := HRUN4.out.free
        go_wp2
        have HR8 := Lib.hid HRUN4.out.next
        have hb3 := HRUN4.out.below
        have m8 : (w3.setCell ⟨r, 0, none⟩ (.slice a2 m2 c2)).cell? ⟨b, o + k * 2 + 1, none⟩ = some (.int .i64 x.2) := (HR8.out.below.cell (World.block_lt_of_cell? W _ HC1.out)).trans HC1.out
        have c8 : (w3.setCell ⟨r, 0, none⟩ (.slice a2 m2 c2)).cell? ⟨r, 0, none⟩ = some (.slice a2 m2 c2) := World.cell?_setCell_same _ _ _ hu3
        have HRF := Lib.hid (HRUN4.out.rf.setNe (o := 0) (x := .slice a2 m2 c2) HRUN4.out.ne)
        have HLG := Lib.hid HRUN4.out.ok
        clear hb3 hu3 hf3 HRUN4 hx2
        generalize w3.setCell ⟨r, 0, none⟩ (.slice a2 m2 c2) = w8 at *
        have n0 := Near.cell (w := w8.drew) (row := none) c8 (by simp)
        have n1 := Near.cell (w := w8.drew) (row := none) m8 (by simp)
        have hlen8 := HR8.out.sp.len
        refine wp_region_mix (fun w' => ∃ x : Near w8.drew none, w' = x.world) [] 25 (by kernel_rfl) rfl ?_
        refine mix_reads_lit [0, 1, 2, 3, 4] 20 (by kernel_rfl) (by kernel_rfl) (by kernel_rfl) (by kernel_rfl) rfl (NearC.of (World.grownBy.refl _ _)) ?_
        simp only [pick, List.filterMap_cons, List.filterMap_nil, List.getElem?_cons_succ, List.getElem?_cons_zero]
        repeat (first | go_big_quiet_step (fail) | quiet_step (fail))
        refine wpQuiet_nil ?_
        refine mix_deed_lit 5 19 (by kernel_rfl) (by kernel_rfl) rfl (fun K hK => ?_)
        simp only [comesUp, List.getElem?_cons_succ, List.getElem?_cons_zero]
        refine if_mk rfl ?_
        go_simp
        refine (same_any9 HR8.out.sp.drew HRF.out.drew HLG.out).mono ?_
        rintro e w9 ⟨rfl, hb9⟩
        have g9 := grown_of_below hb9 (Nat.le_refl _) none
        refine hK _ _ (fun _ _ => NearC.of g9) ?_
        clear hK K
        refine mix_reads_lit [6, 7, 8, 9, 10, 11, 12, 13, 14, 16, 17, 18, 19, 20, 21] 4 (by kernel_rfl) (by kernel_rfl) (by kernel_rfl) (by kernel_rfl) rfl (NearC.of g9) ?_
        simp only [pick, List.filterMap_cons, List.filterMap_nil, List.getElem?_cons_succ, List.getElem?_cons_zero]
        repeat (first | go_big_quiet_step (fail) | quiet_step (fail))
        refine wpQuiet_nil ?_
        refine mix_deed_lit 15 3 (by kernel_rfl) (by kernel_rfl) rfl (fun K hK => ?_)
        simp only [comesUp, List.getElem?_cons_succ, List.getElem?_cons_zero]
        refine if_mk rfl ?_
        go_simp
        refine (fresh_any (HR8.out.sp.drew.below hb9) x.2).mono ?_
        rintro e w10 ⟨rfl, rfl⟩
        refine hK _ _ (fun _ _ => NearC.of g9) ?_
        clear hK K
        refine mix_deed_lit 22 2 (by kernel_rfl) (by kernel_rfl) rfl (fun K hK => ?_)
        simp only [comesUp, List.getElem?_cons_succ, List.getElem?_cons_zero]
        refine if_mk rfl ?_
        go_simp
        refine (refFresh_any (HRF.out.drew.below hb9 (Nat.le_refl _)) HLG.out hlen8 x.2).mono ?_
        rintro e w10 ⟨rfl, hb10⟩
        have hb910 := below_step hb9 hb10
        have g10 := grown_of_below hb910 (Nat.le_refl _) none
        generalize freshS (stepL ls x.1 x.2) x.2 = fr at *
        refine hK _ _ (fun _ _ => NearC.of g10) ?_
        clear hK K
        refine mix_reads_lit [23, 24] 0 (by kernel_rfl) (by kernel_rfl) (by kernel_rfl) (by kernel_rfl) rfl (NearC.of g10) ?_
        simp only [pick, List.filterMap_cons, List.filterMap_nil, List.getElem?_cons_succ, List.getElem?_cons_zero]
        repeat (first | go_big_quiet_step (fail) | quiet_step (fail))
        refine wpQuiet_nil ?_
        refine mix_done_lit (by kernel_rfl) ?_
        have HR10 := Lib.hid (HR8.out.drew.later hb910)
        clear g9 g10 hb9 hb10 hb910 n0 n1
        go_wp2
        go_roundw
        case rel => exact ⟨k + 1, _, by omega, by go_num, HLM2.out, HR10.out⟩
        case measure => simp [intOf]; omega
    · have hcase : k = acts.length ∨ (k < acts.length ∧ 80 ≤ k) := by omega
      clear hlt
      have HB5 := Lib.hid HRUN.out.below
      rcases hcase with rfl | ⟨h1, h2⟩
      all_goals
        go_wp2_with (go_at_call 11; refine (awake_any _).mono ?_; rintro e w7 ⟨rfl, hb7⟩)
        go_ret
        exact ⟨rfl, HB5.out.trans (hb7.mono HB5.out.size)⟩
end Go.Proofs.YtlkpdehajkffaaaDoor
