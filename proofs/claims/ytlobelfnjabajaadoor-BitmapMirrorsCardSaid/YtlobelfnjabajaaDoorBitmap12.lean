/- bitmaps: Choose, and the document's (printed by gen_bmchoose.py) -/
import Derived.Test.YtlobelfnjabajaaDoorBitmap10
import Derived.Test.YtlobelfnjabajaaDoorMixPure
namespace Go.Proofs.YtlobelfnjabajaaDoor
open Go.RowKit
set_option linter.unusedVariables false
set_option linter.unusedSimpArgs false

/-- what Choose of two blocks tells: the map, the places that do not open, the code -/
def mapChooseT (l m : List UInt8) (gen : Nat) (blocks : Int) : Bm.Map × List Int × Nat :=
  match Bm.bmOpen l (Bm.first gen) gen blocks, Bm.bmOpen m (Bm.first gen + 1) gen blocks with
  | none, none => (Bm.zero, [Bm.first gen, Bm.first gen + 1], 5)
  | none, some t => (t, [Bm.first gen], 0)
  | some s, none => (s, [Bm.first gen + 1], 0)
  | some s, some _ => (s, [], 0)
def MapChoose (w : World) (A : Nat → Addr) (r : Bm.Map × List Int × Nat) (e : Ending) (w' : World) : Prop :=
  ∃ a c v ev lp, e = .returned (.tuple #[mapV r.1 (.slice a r.1.used.length c), v, ev]) ∧ OwnI w' w.heap.size (.slice a r.1.used.length c) r.1.used ∧ IntsAt w' v r.2.1 ∧ ErrIs w' A w.heap.size lp r.2.2 ev ∧ pageOf lp = -1 ∧ lp.length ≤ 1
theorem first_two {gen : Nat} {F : Int} (hF : Bm.first gen = F) : F = 2 ∨ F = 4 := by subst hF; unfold Bm.first; omega
theorem two_ints {w : World} {r : Nat} {x y : Int} (h : BoxAt w r [.int .i64 x, .int .i64 y]) : IntsAt w (.slice (some ⟨r, 0, none⟩) 2 2) [x, y] ∧ IntsAt w (.slice (some ⟨r, 0, none⟩) 1 2) [x] ∧ IntsAt w (.slice (some ⟨r, 1, none⟩) 1 1) [y] := by
  refine ⟨⟨_, 2, rfl, by simp, by decide, .inr ⟨r, 0, rfl, fun i z hz => ?_⟩⟩, ⟨_, 2, rfl, by simp, by decide, .inr ⟨r, 0, rfl, fun i z hz => ?_⟩⟩, ⟨_, 1, rfl, by simp, by decide, .inr ⟨r, 1, rfl, fun i z hz => ?_⟩⟩⟩
  · rcases i with _ | _ | i
    · simp at hz; subst hz; exact h.at 0 _ rfl
    · simp at hz; subst hz; exact h.at 1 _ rfl
    · simp at hz
  · rcases i with _ | i
    · simp at hz; subst hz; exact h.at 0 _ rfl
    · simp at hz
  · rcases i with _ | i
    · simp at hz; subst hz; exact h.at 1 _ rfl
    · simp at hz

set_option maxRecDepth 100000 in
set_option maxHeartbeats 8000000 in
theorem mapChoose_any (a1 a2 : Option Addr) (c1 c2 : Nat) (l m : List UInt8) (gen : Nat) (blocks : Int) (w : World) (A : Nat → Addr) {S : Nat → Prop} [Has S 1] [Has S 2] [Has S 5] (hs : SentsOn S w A) (hb1 : BytesAt w (.slice a1 l.length c1) l) (hb2 : BytesAt w (.slice a2 m.length c2) m) (hg : gen < 18446744073709551616) :
    Calls Tryd.prog 34 #[.slice a1 l.length c1, .slice a2 m.length c2, .int .u64 (gen : Int), .int .i64 blocks] w fun e w' => MapChoose w A (mapChooseT l m gen blocks) e w' ∧ Below w.heap.size w w' := by
  have HS := Lib.hid hs
  have HBL := Lib.hid hb1
  have HBM := Lib.hid hb2
  have g5 : w.cell? ⟨2, 0, none⟩ = some (.iface 189 (.pointer (some (A 5)))) := hs.cell 5 (by decide) (by decide)
  have l5 := World.block_lt_of_cell? w _ g5
  simp only at l5
  have HG5 := Lib.hid g5
  obtain ⟨F, hF⟩ : ∃ F, Bm.first gen = F := ⟨_, rfl⟩
  have HF := Lib.hid hF
  have hch : mapChooseT l m gen blocks = match Bm.bmOpen l F gen blocks, Bm.bmOpen m (F + 1) gen blocks with
    | none, none => (Bm.zero, [F, F + 1], 5)
    | none, some t => (t, [F], 0)
    | some s, none => (s, [F + 1], 0)
    | some s, some _ => (s, [], 0) := by rw [← hF]; rfl
  have HCH := Lib.hid hch
  have hF2 := first_two (gen := gen) rfl
  rw [hF] at hF2
  clear hs hb1 hb2 g5 hF hch
  cases hl : Bm.bmOpen l F gen blocks with
  | none =>
    cases hm : Bm.bmOpen m (F + 1) gen blocks with
    | none =>
      have HL := Lib.hid (mapOpen_none (l := l) hl)
      have HM := Lib.hid (mapOpen_none (l := m) hm)
      have HT : Hid (mapChooseT l m gen blocks = (Bm.zero, [F, F + 1], 5)) := Lib.hid (by rw [HCH.out, hl, hm])
      clear hl hm
      go_enter Tryd.func34, Tryd.ntmps34
      go_upto_region 2 with (go_at_call 31; (refine (places_is gen F HF.out hg _).mono ?_); (rintro e w0 ⟨rfl, hb0⟩); (have HR0 := Lib.hid ((BoxAt.new w [.int .u64 0, .int .i64 0, .slice none 0 0] 50).below hb0)); (have HB0 := Lib.hid ((show Below w.heap.size w _ by go_grown).trans (hb0.mono (by simp)))); (clear hb0))
      refine wp_name fun W0 hW0 => ?_
      have HRW0 := Lib.hid (show BoxAt W0 w.heap.size [.int .u64 0, .int .i64 0, .slice none 0 0] by rw [hW0]; exact HR0.out.alloc _)
      have HPW0 := Lib.hid (show BoxAt W0 w0.heap.size [.int .i64 F, .int .i64 (F + 1)] by rw [hW0]; exact BoxAt.new w0 [_, _] _)
      have HBW0 := Lib.hid (show Below w.heap.size w W0 by rw [hW0]; exact HB0.out.alloc HB0.out.size _)
      have hlr := HR0.out.lt
      clear hW0
      obtain ⟨p0, p1⟩ := HPW0.out.two
      go_upto_region 3 with (go_at_call 44; (refine (mapOpen_is l F gen blocks Bm.zero 5 (max F (-1)) HL.out _ _ _ A (HS.out.below HBW0.out) (HBL.out.below HBW0.out) hg).mono ?_); (rintro e w1 ⟨⟨b1, d1, ev1, lp1, rfl, ho1, hE1, hp1, hq1⟩, hb1⟩); (obtain ⟨t1, x1, rfl⟩ := hE1.iface (by decide)))
      refine wp_name fun W1 hW1 => ?_
      have hbW : Below W0.heap.size W0 W1 := by rw [hW1]; exact hb1.alloc hb1.size _
      have HRW1 := Lib.hid (HRW0.out.below hbW)
      have HPW1 := Lib.hid (HPW0.out.below hbW)
      have HBW1 := Lib.hid (below_step HBW0.out hbW)
      have hsw1 := hb1.size
      have hsW1 : W1.heap.size = w1.heap.size + 1 := by rw [hW1]; simp
      clear p0 p1
      obtain ⟨p0, p1⟩ := HPW1.out.two
      clear hW1 hbW hb1 ho1 hE1
      go_upto_region 4 with (go_at_call 44; (refine (mapOpen_is m (F + 1) gen blocks Bm.zero 5 (max (F + 1) (-1)) HM.out _ _ _ A (HS.out.below HBW1.out) (HBM.out.below HBW1.out) hg).mono ?_); (rintro e w2 ⟨⟨b2, d2, ev2, lp2, rfl, ho2, hE2, hp2, hq2⟩, hb2⟩); (obtain ⟨t2, x2, rfl⟩ := hE2.iface (by decide)))
      refine wp_name fun W2 hW2 => ?_
      have hbW : Below W1.heap.size W1 W2 := by rw [hW2]; exact hb2.alloc hb2.size _
      have HRW2 := Lib.hid (HRW1.out.below hbW)
      have HPW2 := Lib.hid (HPW1.out.below hbW)
      have HBW2 := Lib.hid (below_step HBW1.out hbW)
      have hsw2 := hb2.size
      have hsW2 : W2.heap.size = w2.heap.size + 1 := by rw [hW2]; simp
      clear hW2 hbW hb2 ho2 hE2
      have hls := HRW0.out.lt
      have hp0 := HPW0.out.lt
      obtain ⟨m0, m1, m2⟩ := HRW2.out.three
      have f0 := HRW2.out.free 0 _ rfl
      have f1 := HRW2.out.free 1 _ rfl
      have f2 := HRW2.out.free 2 _ rfl
      have HINT := Lib.hid (two_ints HPW2.out)
      have g52 := (HBW2.out.cell (p := ⟨2, 0, none⟩) l5).trans HG5.out
      go_wp2_with fail
      have n5 := Near.cell (w := W2.drew) (row := some w.heap.size) g52 (by simp; omega)
      refine wp_region_mix (fun w' => ∃ x : Near W2.drew (some w.heap.size), w' = x.world) [] 7 (by kernel_rfl) rfl ?_
      refine mix_reads_lit [0, 1, 2] 4 (by kernel_rfl) (by kernel_rfl) (by kernel_rfl) (by kernel_rfl) rfl (NearC.of (World.grownBy.refl _ _)) ?_
      simp only [pick, List.filterMap_cons, List.filterMap_nil, List.getElem?_cons_succ, List.getElem?_cons_zero]
      repeat (first | go_big_quiet_step (fail) | quiet_step (fail))
      refine wpQuiet_nil ?_
      refine mix_deed_lit 3 3 (by kernel_rfl) (by kernel_rfl) rfl (fun K hK => ?_)
      simp only [comesUp, List.getElem?_cons_succ, List.getElem?_cons_zero]
      refine if_mk rfl ?_
      go_simp
      refine (faultNew_any _ 5 _ _ A _ (sent_err 5 (by decide) (by decide)) (by decide) (Nat.le_refl _)).mono ?_
      rintro e w3 ⟨⟨v3, rfl, hv3⟩, hb3⟩
      have gb3 := grown_of_below hb3 (Nat.le_refl _) (some w.heap.size)
      refine hK _ _ (fun _ _ => NearC.of gb3) ?_
      clear hK K
      have HR3 := Lib.hid ((HRW2.out.below (Below.refl _ _).drew).below hb3)
      have HP3 := Lib.hid ((HPW2.out.below (Below.refl _ _).drew).below hb3)
      have HB3 := Lib.hid (below_step HBW2.out.drew hb3)
      have HV3 := Lib.hid (hv3.mono (B' := w.heap.size + 1) (by show w.heap.size + 1 ≤ W2.heap.size; omega))
      clear m0 m1 m2 f0 f1 f2 hb3 hv3
      obtain ⟨m0, m1, m2⟩ := HR3.out.three
      have f0 := HR3.out.free 0 _ rfl
      have f1 := HR3.out.free 1 _ rfl
      have f2 := HR3.out.free 2 _ rfl
      refine mix_deed_lit 4 2 (by kernel_rfl) (by kernel_rfl) rfl (fun K hK => ?_)
      simp only [comesUp, List.getElem?_cons_succ, List.getElem?_cons_zero]
      refine if_mk rfl ?_
      go_simp
      refine hK _ _ (fun _ _ => NearC.of (grownBy_set (grownBy_set (grownBy_set gb3 0 _) 1 _) 2 _)) ?_
      clear hK K
      refine mix_flat_lit [5, 6] 0 (by kernel_rfl) (by kernel_rfl) (by kernel_rfl) (by kernel_rfl) rfl ?_
      simp only [pick, List.filterMap_cons, List.filterMap_nil, List.getElem?_cons_succ, List.getElem?_cons_zero]
      repeat (first | go_big_quiet_step (fail) | quiet_step (fail))
      refine wpQuiet_nil ?_
      refine mix_done_lit (by kernel_rfl) ?_
      go_wp2_with fail
      have hb := HB3.out
      refine bodyPost_ret (v := .tuple #[mapV Bm.zero (.slice none 0 0), .slice (some ⟨w0.heap.size, 0, none⟩) 2 2, v3]) (by simp [results, Tryd.results34, go_sem, m0, m1, m2, mapV, Bm.zero]) rfl ?_
      rw [HT.out]
      refine ⟨⟨none, 0, _, _, _, rfl, OwnI.nil _ _, ?_, (((HV3.out.setLow _ (Nat.lt_succ_self _)).setLow _ (Nat.lt_succ_self _)).setLow _ (Nat.lt_succ_self _)).mono (Nat.le_succ _), rfl, by simp⟩, by go_grown⟩
      exact (two_ints (BoxAt.set (BoxAt.set (BoxAt.set HP3.out (by omega) 0 _) (by omega) 1 _) (by omega) 2 _)).1
    | some t =>
      have HL := Lib.hid (mapOpen_none (l := l) hl)
      have HM := Lib.hid (mapOpen_some (l := m) hm)
      have HT : Hid (mapChooseT l m gen blocks = (t, [F], 0)) := Lib.hid (by rw [HCH.out, hl, hm])
      clear hl hm
      go_enter Tryd.func34, Tryd.ntmps34
      go_upto_region 2 with (go_at_call 31; (refine (places_is gen F HF.out hg _).mono ?_); (rintro e w0 ⟨rfl, hb0⟩); (have HR0 := Lib.hid ((BoxAt.new w [.int .u64 0, .int .i64 0, .slice none 0 0] 50).below hb0)); (have HB0 := Lib.hid ((show Below w.heap.size w _ by go_grown).trans (hb0.mono (by simp)))); (clear hb0))
      refine wp_name fun W0 hW0 => ?_
      have HRW0 := Lib.hid (show BoxAt W0 w.heap.size [.int .u64 0, .int .i64 0, .slice none 0 0] by rw [hW0]; exact HR0.out.alloc _)
      have HPW0 := Lib.hid (show BoxAt W0 w0.heap.size [.int .i64 F, .int .i64 (F + 1)] by rw [hW0]; exact BoxAt.new w0 [_, _] _)
      have HBW0 := Lib.hid (show Below w.heap.size w W0 by rw [hW0]; exact HB0.out.alloc HB0.out.size _)
      have hlr := HR0.out.lt
      clear hW0
      obtain ⟨p0, p1⟩ := HPW0.out.two
      go_upto_region 3 with (go_at_call 44; (refine (mapOpen_is l F gen blocks Bm.zero 5 (max F (-1)) HL.out _ _ _ A (HS.out.below HBW0.out) (HBL.out.below HBW0.out) hg).mono ?_); (rintro e w1 ⟨⟨b1, d1, ev1, lp1, rfl, ho1, hE1, hp1, hq1⟩, hb1⟩); (obtain ⟨t1, x1, rfl⟩ := hE1.iface (by decide)))
      refine wp_name fun W1 hW1 => ?_
      have hbW : Below W0.heap.size W0 W1 := by rw [hW1]; exact hb1.alloc hb1.size _
      have HRW1 := Lib.hid (HRW0.out.below hbW)
      have HPW1 := Lib.hid (HPW0.out.below hbW)
      have HBW1 := Lib.hid (below_step HBW0.out hbW)
      have hsw1 := hb1.size
      have hsW1 : W1.heap.size = w1.heap.size + 1 := by rw [hW1]; simp
      clear p0 p1
      obtain ⟨p0, p1⟩ := HPW1.out.two
      clear hW1 hbW hb1 ho1 hE1
      go_upto_region 4 with (go_at_call 44; (refine (mapOpen_is m (F + 1) gen blocks t 0 (-1) HM.out _ _ _ A (HS.out.below HBW1.out) (HBM.out.below HBW1.out) hg).mono ?_); (rintro e w2 ⟨⟨b2, d2, ev2, lp2, rfl, ho2, hE2, hp2, hq2⟩, hb2⟩); (obtain ⟨rfl, rfl⟩ := hE2.isNil))
      refine wp_name fun W2 hW2 => ?_
      have hbW : Below W1.heap.size W1 W2 := by rw [hW2]; exact hb2.alloc hb2.size _
      have HRW2 := Lib.hid (HRW1.out.below hbW)
      have HPW2 := Lib.hid (HPW1.out.below hbW)
      have HBW2 := Lib.hid (below_step HBW1.out hbW)
      have HMt2 := Lib.hid (show BoxAt W2 w2.heap.size [.int .u64 (t.gen : Int), .int .i64 t.blocks, .slice b2 t.used.length d2] by rw [hW2]; exact BoxAt.new w2 [_, _, _] _)
      have HOt2 := Lib.hid (show OwnI W2 W1.heap.size (.slice b2 t.used.length d2) t.used by rw [hW2]; exact ho2.alloc _)
      have hsw2 := hb2.size
      have hsW2 : W2.heap.size = w2.heap.size + 1 := by rw [hW2]; simp
      clear hW2 hbW hb2 ho2 hE2
      have hls := HRW0.out.lt
      have hp0 := HPW0.out.lt
      obtain ⟨m0, m1, m2⟩ := HRW2.out.three
      have f0 := HRW2.out.free 0 _ rfl
      have f1 := HRW2.out.free 1 _ rfl
      have f2 := HRW2.out.free 2 _ rfl
      have HINT := Lib.hid (two_ints HPW2.out)
      go_wp2_with fail
      have q0 := Near.cell (w := W2.drew) (row := some w.heap.size) (HMt2.out.at 0 _ rfl) (by simp; omega)
      have q1 := Near.cell (w := W2.drew) (row := some w.heap.size) (HMt2.out.at 1 _ rfl) (by simp; omega)
      have q2 := Near.cell (w := W2.drew) (row := some w.heap.size) (HMt2.out.at 2 _ rfl) (by simp; omega)
      refine wp_region_mix (fun w' => ∃ x : Near W2.drew (some w.heap.size), w' = x.world) [] 5 (by kernel_rfl) rfl ?_
      refine mix_reads_lit [0, 1] 3 (by kernel_rfl) (by kernel_rfl) (by kernel_rfl) (by kernel_rfl) rfl (NearC.of (World.grownBy.refl _ _)) ?_
      simp only [pick, List.filterMap_cons, List.filterMap_nil, List.getElem?_cons_succ, List.getElem?_cons_zero]
      repeat (first | go_big_quiet_step (fail) | quiet_step (fail))
      refine wpQuiet_nil ?_
      refine mix_deed_lit 2 2 (by kernel_rfl) (by kernel_rfl) rfl (fun K hK => ?_)
      simp only [comesUp, List.getElem?_cons_succ, List.getElem?_cons_zero]
      refine if_mk rfl ?_
      go_simp
      refine hK _ _ (fun _ _ => NearC.of (grownBy_set (grownBy_set (grownBy_set (World.grownBy.refl W2.drew (some w.heap.size)) 0 _) 1 _) 2 _)) ?_
      clear hK K
      refine mix_flat_lit [3, 4] 0 (by kernel_rfl) (by kernel_rfl) (by kernel_rfl) (by kernel_rfl) rfl ?_
      simp only [pick, List.filterMap_cons, List.filterMap_nil, List.getElem?_cons_succ, List.getElem?_cons_zero]
      repeat (first | go_big_quiet_step (fail) | quiet_step (fail))
      refine wpQuiet_nil ?_
      refine mix_done_lit (by kernel_rfl) ?_
      clear q0 q1 q2
      go_wp2_with fail
      have hb := HBW2.out.drew
      have hb2 := HBW2.out
      refine bodyPost_ret (v := .tuple #[mapV t (.slice b2 t.used.length d2), .slice (some ⟨w0.heap.size, 0, none⟩) 1 2, .nilIface]) (by simp [results, Tryd.results34, go_sem, m0, m1, m2, mapV]) rfl ?_
      rw [HT.out]
      have hown := HOt2.out.below (Below.refl _ _).drew (Nat.le_refl _)
      refine ⟨⟨b2, d2, _, _, [], rfl, (((hown.keep (grownBy_set (World.grownBy.refl W2.drew (some w.heap.size)) 0 _) (by omega)).keep (grownBy_set (World.grownBy.refl _ (some w.heap.size)) 1 _) (by omega)).keep (grownBy_set (World.grownBy.refl _ (some w.heap.size)) 2 _) (by omega)).mono (by omega), ?_, ErrIs.nil _ _ _, rfl, by simp⟩, by go_grown⟩
      exact (two_ints (BoxAt.set (BoxAt.set (BoxAt.set (HPW2.out.below (Below.refl _ _).drew) (by omega) 0 _) (by omega) 1 _) (by omega) 2 _)).2.1
  | some s =>
    cases hm : Bm.bmOpen m (F + 1) gen blocks with
    | none =>
      have HL := Lib.hid (mapOpen_some (l := l) hl)
      have HM := Lib.hid (mapOpen_none (l := m) hm)
      have HT : Hid (mapChooseT l m gen blocks = (s, [F + 1], 0)) := Lib.hid (by rw [HCH.out, hl, hm])
      clear hl hm
      go_enter Tryd.func34, Tryd.ntmps34
      go_upto_region 2 with (go_at_call 31; (refine (places_is gen F HF.out hg _).mono ?_); (rintro e w0 ⟨rfl, hb0⟩); (have HR0 := Lib.hid ((BoxAt.new w [.int .u64 0, .int .i64 0, .slice none 0 0] 50).below hb0)); (have HB0 := Lib.hid ((show Below w.heap.size w _ by go_grown).trans (hb0.mono (by simp)))); (clear hb0))
      refine wp_name fun W0 hW0 => ?_
      have HRW0 := Lib.hid (show BoxAt W0 w.heap.size [.int .u64 0, .int .i64 0, .slice none 0 0] by rw [hW0]; exact HR0.out.alloc _)
      have HPW0 := Lib.hid (show BoxAt W0 w0.heap.size [.int .i64 F, .int .i64 (F + 1)] by rw [hW0]; exact BoxAt.new w0 [_, _] _)
      have HBW0 := Lib.hid (show Below w.heap.size w W0 by rw [hW0]; exact HB0.out.alloc HB0.out.size _)
      have hlr := HR0.out.lt
      clear hW0
      obtain ⟨p0, p1⟩ := HPW0.out.two
      go_upto_region 3 with (go_at_call 44; (refine (mapOpen_is l F gen blocks s 0 (-1) HL.out _ _ _ A (HS.out.below HBW0.out) (HBL.out.below HBW0.out) hg).mono ?_); (rintro e w1 ⟨⟨b1, d1, ev1, lp1, rfl, ho1, hE1, hp1, hq1⟩, hb1⟩); (obtain ⟨rfl, rfl⟩ := hE1.isNil))
      refine wp_name fun W1 hW1 => ?_
      have hbW : Below W0.heap.size W0 W1 := by rw [hW1]; exact hb1.alloc hb1.size _
      have HRW1 := Lib.hid (HRW0.out.below hbW)
      have HPW1 := Lib.hid (HPW0.out.below hbW)
      have HBW1 := Lib.hid (below_step HBW0.out hbW)
      have HMs1 := Lib.hid (show BoxAt W1 w1.heap.size [.int .u64 (s.gen : Int), .int .i64 s.blocks, .slice b1 s.used.length d1] by rw [hW1]; exact BoxAt.new w1 [_, _, _] _)
      have HOs1 := Lib.hid (show OwnI W1 W0.heap.size (.slice b1 s.used.length d1) s.used by rw [hW1]; exact ho1.alloc _)
      have hsw1 := hb1.size
      have hsW1 : W1.heap.size = w1.heap.size + 1 := by rw [hW1]; simp
      clear p0 p1
      obtain ⟨p0, p1⟩ := HPW1.out.two
      clear hW1 hbW hb1 ho1 hE1
      go_upto_region 4 with (go_at_call 44; (refine (mapOpen_is m (F + 1) gen blocks Bm.zero 5 (max (F + 1) (-1)) HM.out _ _ _ A (HS.out.below HBW1.out) (HBM.out.below HBW1.out) hg).mono ?_); (rintro e w2 ⟨⟨b2, d2, ev2, lp2, rfl, ho2, hE2, hp2, hq2⟩, hb2⟩); (obtain ⟨t2, x2, rfl⟩ := hE2.iface (by decide)))
      refine wp_name fun W2 hW2 => ?_
      have hbW : Below W1.heap.size W1 W2 := by rw [hW2]; exact hb2.alloc hb2.size _
      have HRW2 := Lib.hid (HRW1.out.below hbW)
      have HPW2 := Lib.hid (HPW1.out.below hbW)
      have HBW2 := Lib.hid (below_step HBW1.out hbW)
      have HMs2 := Lib.hid (HMs1.out.below hbW)
      have HOs2 := Lib.hid (HOs1.out.below hbW (Nat.le_refl _))
      have hsw2 := hb2.size
      have hsW2 : W2.heap.size = w2.heap.size + 1 := by rw [hW2]; simp
      clear hW2 hbW hb2 ho2 hE2
      have hls := HRW0.out.lt
      have hp0 := HPW0.out.lt
      obtain ⟨m0, m1, m2⟩ := HRW2.out.three
      have f0 := HRW2.out.free 0 _ rfl
      have f1 := HRW2.out.free 1 _ rfl
      have f2 := HRW2.out.free 2 _ rfl
      have HINT := Lib.hid (two_ints HPW2.out)
      go_wp2_with fail
      have q0 := Near.cell (w := W2.drew) (row := some w.heap.size) (HMs2.out.at 0 _ rfl) (by simp; omega)
      have q1 := Near.cell (w := W2.drew) (row := some w.heap.size) (HMs2.out.at 1 _ rfl) (by simp; omega)
      have q2 := Near.cell (w := W2.drew) (row := some w.heap.size) (HMs2.out.at 2 _ rfl) (by simp; omega)
      refine wp_region_mix (fun w' => ∃ x : Near W2.drew (some w.heap.size), w' = x.world) [] 5 (by kernel_rfl) rfl ?_
      refine mix_reads_lit [0, 1] 3 (by kernel_rfl) (by kernel_rfl) (by kernel_rfl) (by kernel_rfl) rfl (NearC.of (World.grownBy.refl _ _)) ?_
      simp only [pick, List.filterMap_cons, List.filterMap_nil, List.getElem?_cons_succ, List.getElem?_cons_zero]
      repeat (first | go_big_quiet_step (fail) | quiet_step (fail))
      refine wpQuiet_nil ?_
      refine mix_deed_lit 2 2 (by kernel_rfl) (by kernel_rfl) rfl (fun K hK => ?_)
      simp only [comesUp, List.getElem?_cons_succ, List.getElem?_cons_zero]
      refine if_mk rfl ?_
      go_simp
      refine hK _ _ (fun _ _ => NearC.of (grownBy_set (grownBy_set (grownBy_set (World.grownBy.refl W2.drew (some w.heap.size)) 0 _) 1 _) 2 _)) ?_
      clear hK K
      refine mix_flat_lit [3, 4] 0 (by kernel_rfl) (by kernel_rfl) (by kernel_rfl) (by kernel_rfl) rfl ?_
      simp only [pick, List.filterMap_cons, List.filterMap_nil, List.getElem?_cons_succ, List.getElem?_cons_zero]
      repeat (first | go_big_quiet_step (fail) | quiet_step (fail))
      refine wpQuiet_nil ?_
      refine mix_done_lit (by kernel_rfl) ?_
      clear q0 q1 q2
      go_wp2_with fail
      have hb := HBW2.out.drew
      have hb2 := HBW2.out
      refine bodyPost_ret (v := .tuple #[mapV s (.slice b1 s.used.length d1), .slice (some ⟨w0.heap.size, 1, none⟩) 1 1, .nilIface]) (by simp [results, Tryd.results34, go_sem, m0, m1, m2, mapV]) rfl ?_
      rw [HT.out]
      have hown := HOs2.out.below (Below.refl _ _).drew (Nat.le_refl _)
      refine ⟨⟨b1, d1, _, _, [], rfl, (((hown.keep (grownBy_set (World.grownBy.refl W2.drew (some w.heap.size)) 0 _) (by omega)).keep (grownBy_set (World.grownBy.refl _ (some w.heap.size)) 1 _) (by omega)).keep (grownBy_set (World.grownBy.refl _ (some w.heap.size)) 2 _) (by omega)).mono (by omega), ?_, ErrIs.nil _ _ _, rfl, by simp⟩, by go_grown⟩
      exact (two_ints (BoxAt.set (BoxAt.set (BoxAt.set (HPW2.out.below (Below.refl _ _).drew) (by omega) 0 _) (by omega) 1 _) (by omega) 2 _)).2.2
    | some t =>
      have HL := Lib.hid (mapOpen_some (l := l) hl)
      have HM := Lib.hid (mapOpen_some (l := m) hm)
      have HT : Hid (mapChooseT l m gen blocks = (s, [], 0)) := Lib.hid (by rw [HCH.out, hl, hm])
      clear hl hm
      go_enter Tryd.func34, Tryd.ntmps34
      go_upto_region 2 with (go_at_call 31; (refine (places_is gen F HF.out hg _).mono ?_); (rintro e w0 ⟨rfl, hb0⟩); (have HR0 := Lib.hid ((BoxAt.new w [.int .u64 0, .int .i64 0, .slice none 0 0] 50).below hb0)); (have HB0 := Lib.hid ((show Below w.heap.size w _ by go_grown).trans (hb0.mono (by simp)))); (clear hb0))
      refine wp_name fun W0 hW0 => ?_
      have HRW0 := Lib.hid (show BoxAt W0 w.heap.size [.int .u64 0, .int .i64 0, .slice none 0 0] by rw [hW0]; exact HR0.out.alloc _)
      have HPW0 := Lib.hid (show BoxAt W0 w0.heap.size [.int .i64 F, .int .i64 (F + 1)] by rw [hW0]; exact BoxAt.new w0 [_, _] _)
      have HBW0 := Lib.hid (show Below w.heap.size w W0 by rw [hW0]; exact HB0.out.alloc HB0.out.size _)
      have hlr := HR0.out.lt
      clear hW0
      obtain ⟨p0, p1⟩ := HPW0.out.two
      go_upto_region 3 with (go_at_call 44; (refine (mapOpen_is l F gen blocks s 0 (-1) HL.out _ _ _ A (HS.out.below HBW0.out) (HBL.out.below HBW0.out) hg).mono ?_); (rintro e w1 ⟨⟨b1, d1, ev1, lp1, rfl, ho1, hE1, hp1, hq1⟩, hb1⟩); (obtain ⟨rfl, rfl⟩ := hE1.isNil))
      refine wp_name fun W1 hW1 => ?_
      have hbW : Below W0.heap.size W0 W1 := by rw [hW1]; exact hb1.alloc hb1.size _
      have HRW1 := Lib.hid (HRW0.out.below hbW)
      have HPW1 := Lib.hid (HPW0.out.below hbW)
      have HBW1 := Lib.hid (below_step HBW0.out hbW)
      have HMs1 := Lib.hid (show BoxAt W1 w1.heap.size [.int .u64 (s.gen : Int), .int .i64 s.blocks, .slice b1 s.used.length d1] by rw [hW1]; exact BoxAt.new w1 [_, _, _] _)
      have HOs1 := Lib.hid (show OwnI W1 W0.heap.size (.slice b1 s.used.length d1) s.used by rw [hW1]; exact ho1.alloc _)
      have hsw1 := hb1.size
      have hsW1 : W1.heap.size = w1.heap.size + 1 := by rw [hW1]; simp
      clear p0 p1
      obtain ⟨p0, p1⟩ := HPW1.out.two
      clear hW1 hbW hb1 ho1 hE1
      go_upto_region 4 with (go_at_call 44; (refine (mapOpen_is m (F + 1) gen blocks t 0 (-1) HM.out _ _ _ A (HS.out.below HBW1.out) (HBM.out.below HBW1.out) hg).mono ?_); (rintro e w2 ⟨⟨b2, d2, ev2, lp2, rfl, ho2, hE2, hp2, hq2⟩, hb2⟩); (obtain ⟨rfl, rfl⟩ := hE2.isNil))
      refine wp_name fun W2 hW2 => ?_
      have hbW : Below W1.heap.size W1 W2 := by rw [hW2]; exact hb2.alloc hb2.size _
      have HRW2 := Lib.hid (HRW1.out.below hbW)
      have HPW2 := Lib.hid (HPW1.out.below hbW)
      have HBW2 := Lib.hid (below_step HBW1.out hbW)
      have HMs2 := Lib.hid (HMs1.out.below hbW)
      have HOs2 := Lib.hid (HOs1.out.below hbW (Nat.le_refl _))
      have HMt2 := Lib.hid (show BoxAt W2 w2.heap.size [.int .u64 (t.gen : Int), .int .i64 t.blocks, .slice b2 t.used.length d2] by rw [hW2]; exact BoxAt.new w2 [_, _, _] _)
      have HOt2 := Lib.hid (show OwnI W2 W1.heap.size (.slice b2 t.used.length d2) t.used by rw [hW2]; exact ho2.alloc _)
      have hsw2 := hb2.size
      have hsW2 : W2.heap.size = w2.heap.size + 1 := by rw [hW2]; simp
      clear hW2 hbW hb2 ho2 hE2
      have hls := HRW0.out.lt
      have hp0 := HPW0.out.lt
      obtain ⟨m0, m1, m2⟩ := HRW2.out.three
      have f0 := HRW2.out.free 0 _ rfl
      have f1 := HRW2.out.free 1 _ rfl
      have f2 := HRW2.out.free 2 _ rfl
      have HINT := Lib.hid (two_ints HPW2.out)
      obtain ⟨s0, s1, s2⟩ := HMs2.out.three
      go_wp2_with fail
      have hb := HBW2.out
      refine bodyPost_ret (v := .tuple #[mapV s (.slice b1 s.used.length d1), .slice none 0 0, .nilIface]) (by simp [results, Tryd.results34, go_sem, m0, m1, m2, mapV]) rfl ?_
      rw [HT.out]
      exact ⟨⟨b1, d1, _, _, [], rfl, (((HOs2.out.keep (grownBy_set (World.grownBy.refl W2 (some w.heap.size)) 0 _) (by omega)).keep (grownBy_set (World.grownBy.refl _ (some w.heap.size)) 1 _) (by omega)).keep (grownBy_set (World.grownBy.refl _ (some w.heap.size)) 2 _) (by omega)).mono (by omega), IntsAt.nil _, ErrIs.nil _ _ _, rfl, by simp⟩, by go_grown⟩
end Go.Proofs.YtlobelfnjabajaaDoor
