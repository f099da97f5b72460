/- superblocks: super.Choose -/
import Derived.Test.YtaofhdoieffhhaaDoorSuper4
namespace Go.Proofs.YtaofhdoieffhhaaDoor
open Go.RowKit
set_option linter.unusedVariables false
set_option linter.unusedSimpArgs false

theorem superOpen_some (a : Option Addr) (c : Nat) (l : List UInt8) (at_ : Int) (s : Su.Sup) (hat : at_ = 0 ∨ at_ = 1) (h : Su.supOpen l at_ = some s) (w : World) (A : Nat → Addr) {S : Nat → Prop} [Has S 1] [Has S 2] [Has S 5] (hs : SentsOn S w A) (hb : BytesAt w (.slice a l.length c) l) :
    Calls Tryd.prog 34 #[.slice a l.length c, .int .i64 at_] w fun e w' => e = .returned (.tuple #[.agg #[.int .u64 (s.gen : Int), .int .i64 s.blocks, .int .i64 s.size, .int .i64 s.root, .int .i64 s.keys], .nilIface]) ∧ Below w.heap.size w w' := by
  refine (superOpen_any a c l at_ w A hs hb).mono fun e w' ⟨⟨ev, lp, he, hE, _, _⟩, hb⟩ => ⟨?_, hb⟩
  have hT : supOpenT l at_ = (s, 0, -1) := by unfold supOpenT; rw [if_pos hat, h]
  rw [hT] at he hE
  obtain ⟨rfl, _⟩ := hE.isNil
  exact he
theorem superOpen_none (a : Option Addr) (c : Nat) (l : List UInt8) (at_ : Int) (hat : at_ = 0 ∨ at_ = 1) (h : Su.supOpen l at_ = none) (w : World) (A : Nat → Addr) {S : Nat → Prop} [Has S 1] [Has S 2] [Has S 5] (hs : SentsOn S w A) (hb : BytesAt w (.slice a l.length c) l) :
    Calls Tryd.prog 34 #[.slice a l.length c, .int .i64 at_] w fun e w' => (∃ t x lp, e = .returned (.tuple #[.agg #[.int .u64 0, .int .i64 0, .int .i64 0, .int .i64 0, .int .i64 0], .iface t x]) ∧ ErrIs w' A w.heap.size lp 5 (.iface t x) ∧ pageOf lp = at_ ∧ lp.length ≤ 1) ∧ Below w.heap.size w w' := by
  refine (superOpen_any a c l at_ w A hs hb).mono fun e w' ⟨⟨ev, lp, he, hE, hp, hl⟩, hb⟩ => ⟨?_, hb⟩
  have hT : supOpenT l at_ = (Su.zero, 5, at_) := by unfold supOpenT; rw [if_pos hat, h]
  rw [hT] at he hE hp
  obtain ⟨t, x, rfl⟩ := hE.iface (show (5 : Nat) ≠ 0 by decide)
  exact ⟨t, x, lp, he, hE, hp, hl⟩

/-- what Choose tells: what is said, its place, the code -/
def chooseT (a b : List UInt8) : Su.Sup × Int × Nat := match Su.chooseL a b with | some (s, at_) => (s, at_, 0) | none => (Su.zero, 0, 5)
def ChooseErr (w : World) (A : Nat → Addr) (r : Su.Sup × Int × Nat) (e : Ending) (w' : World) : Prop :=
  ∃ ev lp, e = .returned (.tuple #[supV r.1, .int .i64 r.2.1, ev]) ∧ ErrIs w' A w.heap.size lp r.2.2 ev ∧ pageOf lp = -1 ∧ lp.length ≤ 1
set_option maxRecDepth 100000 in
set_option maxHeartbeats 4000000 in
theorem choose_any (a1 a2 : Option Addr) (c1 c2 : Nat) (l m : List UInt8) (w : World) (A : Nat → Addr) {S : Nat → Prop} [Has S 1] [Has S 2] [Has S 5] (hs : SentsOn S w A) (hb1 : BytesAt w (.slice a1 l.length c1) l) (hb2 : BytesAt w (.slice a2 m.length c2) m) :
    Calls Tryd.prog 29 #[.slice a1 l.length c1, .slice a2 m.length c2] w fun e w' => ChooseErr w A (chooseT l m) e w' ∧ Below w.heap.size w w' := by
  have HS := Lib.hid hs
  have HBL := Lib.hid hb1
  have HBM := Lib.hid hb2
  have g5 : w.cell? ⟨1, 0, none⟩ = some (.iface 136 (.pointer (some (A 5)))) := hs.cell 5 (by decide) (by decide)
  have l5 := World.block_lt_of_cell? w _ g5
  simp only at l5
  have HG5 := Lib.hid g5
  clear hs hb1 hb2 g5
  have HT := Lib.hid (show chooseT l m = (match (match Su.supOpen l 0, Su.supOpen m 1 with | none, none => none | none, some t => some (t, (1 : Int)) | some s, none => some (s, 0) | some s, some t => if s.gen < t.gen then some (t, 1) else some (s, 0)) with | some (s, at_) => (s, at_, 0) | none => (Su.zero, 0, 5)) from rfl)
  cases hl : Su.supOpen l 0 with
  | none =>
    cases hm : Su.supOpen m 1 with
    | none =>
      have HL := Lib.hid hl
      have HM := Lib.hid hm
      have HTT : Hid (chooseT l m = (Su.zero, 0, 5)) := Lib.hid (by rw [HT.out, hl, hm])
      clear hl hm HT
      go_enter Tryd.func29, Tryd.ntmps29
      go_upto_region 2 with (go_at_call 34; (refine (superOpen_none a1 c1 l 0 (.inl rfl) HL.out _ A (HS.out.below (by go_grown)) (HBL.out.alloc _)).mono ?_); (rintro e w1 ⟨⟨t1, x1, lp1, rfl, hE1, -, -⟩, hb1⟩); (have HR1 := Lib.hid ((BoxAt.new w [.int .u64 0, .int .i64 0, .int .i64 0, .int .i64 0, .int .i64 0] 48).below hb1)); (have HB1 := Lib.hid ((show Below w.heap.size w _ by go_grown).trans (hb1.mono (by simp)))); (clear hb1))
      refine wp_name fun W hW => ?_
      have HXW := Lib.hid (show BoxAt W w1.heap.size [.int .u64 0, .int .i64 0, .int .i64 0, .int .i64 0, .int .i64 0] by rw [hW]; exact BoxAt.new w1 [_, _, _, _, _] _)
      have HRW := Lib.hid (show BoxAt W w.heap.size [.int .u64 0, .int .i64 0, .int .i64 0, .int .i64 0, .int .i64 0] by rw [hW]; exact HR1.out.alloc _)
      have HBW := Lib.hid (show Below w.heap.size w W by rw [hW]; exact HB1.out.alloc HB1.out.size _)
      have hr1 := HR1.out.lt
      clear hW
      go_upto_region 3 with (go_at_call 34; (refine (superOpen_none a2 c2 m 1 (.inr rfl) HM.out _ A (HS.out.below HBW.out) (HBM.out.below HBW.out)).mono ?_); (rintro e w2 ⟨⟨t2, x2, lp2, rfl, hE2, -, -⟩, hb2⟩); (have HR2 := Lib.hid (HRW.out.below hb2)); (have HX2 := Lib.hid (HXW.out.below hb2)); (have HB2 := Lib.hid (below_step HBW.out hb2)); (clear hb2))
      refine wp_name fun V hV => ?_
      have HXV := Lib.hid (show BoxAt V w1.heap.size [.int .u64 0, .int .i64 0, .int .i64 0, .int .i64 0, .int .i64 0] by rw [hV]; exact HX2.out.alloc _)
      have HYV := Lib.hid (show BoxAt V w2.heap.size [.int .u64 0, .int .i64 0, .int .i64 0, .int .i64 0, .int .i64 0] by rw [hV]; exact BoxAt.new w2 [_, _, _, _, _] _)
      have HRV := Lib.hid (show BoxAt V w.heap.size [.int .u64 0, .int .i64 0, .int .i64 0, .int .i64 0, .int .i64 0] by rw [hV]; exact HR2.out.alloc _)
      have HBV := Lib.hid (show Below w.heap.size w V by rw [hV]; exact HB2.out.alloc HB2.out.size _)
      have hr2 := HX2.out.lt
      have k0 : w.heap.size < w2.heap.size := by omega
      have k1 : ¬ w2.heap.size = w.heap.size := Nat.ne_of_gt k0
      have k2 : ¬ w.heap.size = w2.heap.size := Nat.ne_of_lt k0
      have k3 : ¬ w1.heap.size = w.heap.size := Nat.ne_of_gt hr1
      have k4 : ¬ w.heap.size = w1.heap.size := Nat.ne_of_lt hr1
      clear hV
      obtain ⟨x0, x1', x2', x3, x4⟩ := HXV.out.five
      obtain ⟨y0, y1, y2, y3, y4⟩ := HYV.out.five
      obtain ⟨m0, m1, m2, m3, m4⟩ := HRV.out.five
      obtain ⟨f0, f1, f2, f3, f4⟩ := HRV.out.five_free
      have g52 := (HBV.out.cell (p := ⟨1, 0, none⟩) l5).trans HG5.out
      go_wp2_with (go_at_call 45; (refine (faultNew_any _ 5 _ _ A _ (sent_err 5 (by decide) (by decide)) (by decide) (Nat.le_refl _)).mono ?_); (rintro e w3 ⟨⟨v, rfl, hv⟩, hb3⟩); (have HX3 := Lib.hid (HRV.out.below hb3)); (obtain ⟨z0, z1, z2, z3, z4⟩ := HX3.out.five); (obtain ⟨zf0, zf1, zf2, zf3, zf4⟩ := HX3.out.five_free); (have hlt3 := HRV.out.lt); (have HV := Lib.hid (hv.mono (B' := w.heap.size + 1) (by omega))); (have HB3 := Lib.hid (below_step HBV.out hb3)); (clear hv hb3))
      refine bodyPost_ret (v := .tuple #[supV Su.zero, .int .i64 0, v]) (by simp [results, Tryd.results29, go_sem, z0, z1, z2, z3, z4, supV, Su.zero]) rfl ?_
      have hb := HB3.out
      rw [HTT.out]
      exact ⟨⟨_, _, rfl, (((((HV.out.setLow _ (Nat.lt_succ_self _)).setLow _ (Nat.lt_succ_self _)).setLow _ (Nat.lt_succ_self _)).setLow _ (Nat.lt_succ_self _)).setLow _ (Nat.lt_succ_self _)).mono (Nat.le_succ _), rfl, by simp⟩, by go_grown⟩
    | some t =>
      have HL := Lib.hid hl
      have HM := Lib.hid hm
      have HTT : Hid (chooseT l m = (t, 1, 0)) := Lib.hid (by rw [HT.out, hl, hm])
      clear hl hm HT
      go_enter Tryd.func29, Tryd.ntmps29
      go_upto_region 2 with (go_at_call 34; (refine (superOpen_none a1 c1 l 0 (.inl rfl) HL.out _ A (HS.out.below (by go_grown)) (HBL.out.alloc _)).mono ?_); (rintro e w1 ⟨⟨t1, x1, lp1, rfl, hE1, -, -⟩, hb1⟩); (have HR1 := Lib.hid ((BoxAt.new w [.int .u64 0, .int .i64 0, .int .i64 0, .int .i64 0, .int .i64 0] 48).below hb1)); (have HB1 := Lib.hid ((show Below w.heap.size w _ by go_grown).trans (hb1.mono (by simp)))); (clear hb1))
      refine wp_name fun W hW => ?_
      have HXW := Lib.hid (show BoxAt W w1.heap.size [.int .u64 0, .int .i64 0, .int .i64 0, .int .i64 0, .int .i64 0] by rw [hW]; exact BoxAt.new w1 [_, _, _, _, _] _)
      have HRW := Lib.hid (show BoxAt W w.heap.size [.int .u64 0, .int .i64 0, .int .i64 0, .int .i64 0, .int .i64 0] by rw [hW]; exact HR1.out.alloc _)
      have HBW := Lib.hid (show Below w.heap.size w W by rw [hW]; exact HB1.out.alloc HB1.out.size _)
      have hr1 := HR1.out.lt
      clear hW
      go_upto_region 3 with (go_at_call 34; (refine (superOpen_some a2 c2 m 1 t (.inr rfl) HM.out _ A (HS.out.below HBW.out) (HBM.out.below HBW.out)).mono ?_); (rintro e w2 ⟨rfl, hb2⟩); (have HR2 := Lib.hid (HRW.out.below hb2)); (have HX2 := Lib.hid (HXW.out.below hb2)); (have HB2 := Lib.hid (below_step HBW.out hb2)); (clear hb2))
      refine wp_name fun V hV => ?_
      have HXV := Lib.hid (show BoxAt V w1.heap.size [.int .u64 0, .int .i64 0, .int .i64 0, .int .i64 0, .int .i64 0] by rw [hV]; exact HX2.out.alloc _)
      have HYV := Lib.hid (show BoxAt V w2.heap.size [.int .u64 (t.gen : Int), .int .i64 t.blocks, .int .i64 t.size, .int .i64 t.root, .int .i64 t.keys] by rw [hV]; exact BoxAt.new w2 [_, _, _, _, _] _)
      have HRV := Lib.hid (show BoxAt V w.heap.size [.int .u64 0, .int .i64 0, .int .i64 0, .int .i64 0, .int .i64 0] by rw [hV]; exact HR2.out.alloc _)
      have HBV := Lib.hid (show Below w.heap.size w V by rw [hV]; exact HB2.out.alloc HB2.out.size _)
      have hr2 := HX2.out.lt
      have k0 : w.heap.size < w2.heap.size := by omega
      have k1 : ¬ w2.heap.size = w.heap.size := Nat.ne_of_gt k0
      have k2 : ¬ w.heap.size = w2.heap.size := Nat.ne_of_lt k0
      have k3 : ¬ w1.heap.size = w.heap.size := Nat.ne_of_gt hr1
      have k4 : ¬ w.heap.size = w1.heap.size := Nat.ne_of_lt hr1
      clear hV
      obtain ⟨x0, x1', x2', x3, x4⟩ := HXV.out.five
      obtain ⟨y0, y1, y2, y3, y4⟩ := HYV.out.five
      obtain ⟨m0, m1, m2, m3, m4⟩ := HRV.out.five
      obtain ⟨f0, f1, f2, f3, f4⟩ := HRV.out.five_free
      go_wp2_with fail
      refine bodyPost_ret (v := .tuple #[supV t, .int .i64 1, .nilIface]) (by simp [results, Tryd.results29, go_sem, m0, m1, m2, m3, m4, supV, Su.zero, k0, k1, k2, k3, k4]) rfl ?_
      have hb := HBV.out
      rw [HTT.out]
      exact ⟨⟨_, [], rfl, ErrIs.nil _ _ _, rfl, by simp⟩, by go_grown⟩
  | some s =>
    cases hm : Su.supOpen m 1 with
    | none =>
      have HL := Lib.hid hl
      have HM := Lib.hid hm
      have HTT : Hid (chooseT l m = (s, 0, 0)) := Lib.hid (by rw [HT.out, hl, hm])
      clear hl hm HT
      go_enter Tryd.func29, Tryd.ntmps29
      go_upto_region 2 with (go_at_call 34; (refine (superOpen_some a1 c1 l 0 s (.inl rfl) HL.out _ A (HS.out.below (by go_grown)) (HBL.out.alloc _)).mono ?_); (rintro e w1 ⟨rfl, hb1⟩); (have HR1 := Lib.hid ((BoxAt.new w [.int .u64 0, .int .i64 0, .int .i64 0, .int .i64 0, .int .i64 0] 48).below hb1)); (have HB1 := Lib.hid ((show Below w.heap.size w _ by go_grown).trans (hb1.mono (by simp)))); (clear hb1))
      refine wp_name fun W hW => ?_
      have HXW := Lib.hid (show BoxAt W w1.heap.size [.int .u64 (s.gen : Int), .int .i64 s.blocks, .int .i64 s.size, .int .i64 s.root, .int .i64 s.keys] by rw [hW]; exact BoxAt.new w1 [_, _, _, _, _] _)
      have HRW := Lib.hid (show BoxAt W w.heap.size [.int .u64 0, .int .i64 0, .int .i64 0, .int .i64 0, .int .i64 0] by rw [hW]; exact HR1.out.alloc _)
      have HBW := Lib.hid (show Below w.heap.size w W by rw [hW]; exact HB1.out.alloc HB1.out.size _)
      have hr1 := HR1.out.lt
      clear hW
      go_upto_region 3 with (go_at_call 34; (refine (superOpen_none a2 c2 m 1 (.inr rfl) HM.out _ A (HS.out.below HBW.out) (HBM.out.below HBW.out)).mono ?_); (rintro e w2 ⟨⟨t2, x2, lp2, rfl, hE2, -, -⟩, hb2⟩); (have HR2 := Lib.hid (HRW.out.below hb2)); (have HX2 := Lib.hid (HXW.out.below hb2)); (have HB2 := Lib.hid (below_step HBW.out hb2)); (clear hb2))
      refine wp_name fun V hV => ?_
      have HXV := Lib.hid (show BoxAt V w1.heap.size [.int .u64 (s.gen : Int), .int .i64 s.blocks, .int .i64 s.size, .int .i64 s.root, .int .i64 s.keys] by rw [hV]; exact HX2.out.alloc _)
      have HYV := Lib.hid (show BoxAt V w2.heap.size [.int .u64 0, .int .i64 0, .int .i64 0, .int .i64 0, .int .i64 0] by rw [hV]; exact BoxAt.new w2 [_, _, _, _, _] _)
      have HRV := Lib.hid (show BoxAt V w.heap.size [.int .u64 0, .int .i64 0, .int .i64 0, .int .i64 0, .int .i64 0] by rw [hV]; exact HR2.out.alloc _)
      have HBV := Lib.hid (show Below w.heap.size w V by rw [hV]; exact HB2.out.alloc HB2.out.size _)
      have hr2 := HX2.out.lt
      have k0 : w.heap.size < w2.heap.size := by omega
      have k1 : ¬ w2.heap.size = w.heap.size := Nat.ne_of_gt k0
      have k2 : ¬ w.heap.size = w2.heap.size := Nat.ne_of_lt k0
      have k3 : ¬ w1.heap.size = w.heap.size := Nat.ne_of_gt hr1
      have k4 : ¬ w.heap.size = w1.heap.size := Nat.ne_of_lt hr1
      clear hV
      obtain ⟨x0, x1', x2', x3, x4⟩ := HXV.out.five
      obtain ⟨y0, y1, y2, y3, y4⟩ := HYV.out.five
      obtain ⟨m0, m1, m2, m3, m4⟩ := HRV.out.five
      obtain ⟨f0, f1, f2, f3, f4⟩ := HRV.out.five_free
      go_wp2_with fail
      refine bodyPost_ret (v := .tuple #[supV s, .int .i64 0, .nilIface]) (by simp [results, Tryd.results29, go_sem, m0, m1, m2, m3, m4, supV, Su.zero, k0, k1, k2, k3, k4]) rfl ?_
      have hb := HBV.out
      rw [HTT.out]
      exact ⟨⟨_, [], rfl, ErrIs.nil _ _ _, rfl, by simp⟩, by go_grown⟩
    | some t =>
      by_cases hgt : s.gen < t.gen
      · have HL := Lib.hid hl
        have HM := Lib.hid hm
        have HTT : Hid (chooseT l m = (t, 1, 0)) := Lib.hid (by rw [HT.out, hl, hm]; simp only [hgt, if_true])
        have hg2 : (s.gen : Int) < (t.gen : Int) := by omega
        clear hgt
        clear hl hm HT
        go_enter Tryd.func29, Tryd.ntmps29
        go_upto_region 2 with (go_at_call 34; (refine (superOpen_some a1 c1 l 0 s (.inl rfl) HL.out _ A (HS.out.below (by go_grown)) (HBL.out.alloc _)).mono ?_); (rintro e w1 ⟨rfl, hb1⟩); (have HR1 := Lib.hid ((BoxAt.new w [.int .u64 0, .int .i64 0, .int .i64 0, .int .i64 0, .int .i64 0] 48).below hb1)); (have HB1 := Lib.hid ((show Below w.heap.size w _ by go_grown).trans (hb1.mono (by simp)))); (clear hb1))
        refine wp_name fun W hW => ?_
        have HXW := Lib.hid (show BoxAt W w1.heap.size [.int .u64 (s.gen : Int), .int .i64 s.blocks, .int .i64 s.size, .int .i64 s.root, .int .i64 s.keys] by rw [hW]; exact BoxAt.new w1 [_, _, _, _, _] _)
        have HRW := Lib.hid (show BoxAt W w.heap.size [.int .u64 0, .int .i64 0, .int .i64 0, .int .i64 0, .int .i64 0] by rw [hW]; exact HR1.out.alloc _)
        have HBW := Lib.hid (show Below w.heap.size w W by rw [hW]; exact HB1.out.alloc HB1.out.size _)
        have hr1 := HR1.out.lt
        clear hW
        go_upto_region 3 with (go_at_call 34; (refine (superOpen_some a2 c2 m 1 t (.inr rfl) HM.out _ A (HS.out.below HBW.out) (HBM.out.below HBW.out)).mono ?_); (rintro e w2 ⟨rfl, hb2⟩); (have HR2 := Lib.hid (HRW.out.below hb2)); (have HX2 := Lib.hid (HXW.out.below hb2)); (have HB2 := Lib.hid (below_step HBW.out hb2)); (clear hb2))
        refine wp_name fun V hV => ?_
        have HXV := Lib.hid (show BoxAt V w1.heap.size [.int .u64 (s.gen : Int), .int .i64 s.blocks, .int .i64 s.size, .int .i64 s.root, .int .i64 s.keys] by rw [hV]; exact HX2.out.alloc _)
        have HYV := Lib.hid (show BoxAt V w2.heap.size [.int .u64 (t.gen : Int), .int .i64 t.blocks, .int .i64 t.size, .int .i64 t.root, .int .i64 t.keys] by rw [hV]; exact BoxAt.new w2 [_, _, _, _, _] _)
        have HRV := Lib.hid (show BoxAt V w.heap.size [.int .u64 0, .int .i64 0, .int .i64 0, .int .i64 0, .int .i64 0] by rw [hV]; exact HR2.out.alloc _)
        have HBV := Lib.hid (show Below w.heap.size w V by rw [hV]; exact HB2.out.alloc HB2.out.size _)
        have hr2 := HX2.out.lt
        have k0 : w.heap.size < w2.heap.size := by omega
        have k1 : ¬ w2.heap.size = w.heap.size := Nat.ne_of_gt k0
        have k2 : ¬ w.heap.size = w2.heap.size := Nat.ne_of_lt k0
        have k3 : ¬ w1.heap.size = w.heap.size := Nat.ne_of_gt hr1
        have k4 : ¬ w.heap.size = w1.heap.size := Nat.ne_of_lt hr1
        clear hV
        obtain ⟨x0, x1', x2', x3, x4⟩ := HXV.out.five
        obtain ⟨y0, y1, y2, y3, y4⟩ := HYV.out.five
        obtain ⟨m0, m1, m2, m3, m4⟩ := HRV.out.five
        obtain ⟨f0, f1, f2, f3, f4⟩ := HRV.out.five_free
        go_wp2_with fail
        refine bodyPost_ret (v := .tuple #[supV t, .int .i64 1, .nilIface]) (by simp [results, Tryd.results29, go_sem, m0, m1, m2, m3, m4, supV, Su.zero, k0, k1, k2, k3, k4]) rfl ?_
        have hb := HBV.out
        rw [HTT.out]
        exact ⟨⟨_, [], rfl, ErrIs.nil _ _ _, rfl, by simp⟩, by go_grown⟩
      · have HL := Lib.hid hl
        have HM := Lib.hid hm
        have HTT : Hid (chooseT l m = (s, 0, 0)) := Lib.hid (by rw [HT.out, hl, hm]; simp only [hgt, if_false])
        have hg2 : (t.gen : Int) ≤ (s.gen : Int) := by omega
        clear hgt
        clear hl hm HT
        go_enter Tryd.func29, Tryd.ntmps29
        go_upto_region 2 with (go_at_call 34; (refine (superOpen_some a1 c1 l 0 s (.inl rfl) HL.out _ A (HS.out.below (by go_grown)) (HBL.out.alloc _)).mono ?_); (rintro e w1 ⟨rfl, hb1⟩); (have HR1 := Lib.hid ((BoxAt.new w [.int .u64 0, .int .i64 0, .int .i64 0, .int .i64 0, .int .i64 0] 48).below hb1)); (have HB1 := Lib.hid ((show Below w.heap.size w _ by go_grown).trans (hb1.mono (by simp)))); (clear hb1))
        refine wp_name fun W hW => ?_
        have HXW := Lib.hid (show BoxAt W w1.heap.size [.int .u64 (s.gen : Int), .int .i64 s.blocks, .int .i64 s.size, .int .i64 s.root, .int .i64 s.keys] by rw [hW]; exact BoxAt.new w1 [_, _, _, _, _] _)
        have HRW := Lib.hid (show BoxAt W w.heap.size [.int .u64 0, .int .i64 0, .int .i64 0, .int .i64 0, .int .i64 0] by rw [hW]; exact HR1.out.alloc _)
        have HBW := Lib.hid (show Below w.heap.size w W by rw [hW]; exact HB1.out.alloc HB1.out.size _)
        have hr1 := HR1.out.lt
        clear hW
        go_upto_region 3 with (go_at_call 34; (refine (superOpen_some a2 c2 m 1 t (.inr rfl) HM.out _ A (HS.out.below HBW.out) (HBM.out.below HBW.out)).mono ?_); (rintro e w2 ⟨rfl, hb2⟩); (have HR2 := Lib.hid (HRW.out.below hb2)); (have HX2 := Lib.hid (HXW.out.below hb2)); (have HB2 := Lib.hid (below_step HBW.out hb2)); (clear hb2))
        refine wp_name fun V hV => ?_
        have HXV := Lib.hid (show BoxAt V w1.heap.size [.int .u64 (s.gen : Int), .int .i64 s.blocks, .int .i64 s.size, .int .i64 s.root, .int .i64 s.keys] by rw [hV]; exact HX2.out.alloc _)
        have HYV := Lib.hid (show BoxAt V w2.heap.size [.int .u64 (t.gen : Int), .int .i64 t.blocks, .int .i64 t.size, .int .i64 t.root, .int .i64 t.keys] by rw [hV]; exact BoxAt.new w2 [_, _, _, _, _] _)
        have HRV := Lib.hid (show BoxAt V w.heap.size [.int .u64 0, .int .i64 0, .int .i64 0, .int .i64 0, .int .i64 0] by rw [hV]; exact HR2.out.alloc _)
        have HBV := Lib.hid (show Below w.heap.size w V by rw [hV]; exact HB2.out.alloc HB2.out.size _)
        have hr2 := HX2.out.lt
        have k0 : w.heap.size < w2.heap.size := by omega
        have k1 : ¬ w2.heap.size = w.heap.size := Nat.ne_of_gt k0
        have k2 : ¬ w.heap.size = w2.heap.size := Nat.ne_of_lt k0
        have k3 : ¬ w1.heap.size = w.heap.size := Nat.ne_of_gt hr1
        have k4 : ¬ w.heap.size = w1.heap.size := Nat.ne_of_lt hr1
        clear hV
        obtain ⟨x0, x1', x2', x3, x4⟩ := HXV.out.five
        obtain ⟨y0, y1, y2, y3, y4⟩ := HYV.out.five
        obtain ⟨m0, m1, m2, m3, m4⟩ := HRV.out.five
        obtain ⟨f0, f1, f2, f3, f4⟩ := HRV.out.five_free
        go_wp2_with fail
        refine bodyPost_ret (v := .tuple #[supV s, .int .i64 0, .nilIface]) (by simp [results, Tryd.results29, go_sem, m0, m1, m2, m3, m4, supV, Su.zero, k0, k1, k2, k3, k4]) rfl ?_
        have hb := HBV.out
        rw [HTT.out]
        exact ⟨⟨_, [], rfl, ErrIs.nil _ _ _, rfl, by simp⟩, by go_grown⟩
end Go.Proofs.YtaofhdoieffhhaaDoor
