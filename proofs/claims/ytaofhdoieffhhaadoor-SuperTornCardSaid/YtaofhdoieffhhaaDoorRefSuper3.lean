/- superblocks: the document's Choose -/
import Derived.Test.YtaofhdoieffhhaaDoorRefSuper2
import Derived.Test.YtaofhdoieffhhaaDoorSuper5
namespace Go.Proofs.YtaofhdoieffhhaaDoor
open Go.RowKit
set_option linter.unusedVariables false
set_option linter.unusedSimpArgs false

theorem refSupOpen_some (a : Option Addr) (c : Nat) (l : List UInt8) (at_ : Int) (s : Su.Sup) (h : Su.supOpen l at_ = some s) (w : World) (hb : BytesAt w (.slice a l.length c) l) :
    Calls Tryd.prog 39 #[.slice a l.length c, .int .i64 at_] w fun e w' => e = .returned (.tuple #[.agg #[.int .u64 (s.gen : Int), .int .i64 s.blocks, .int .i64 s.size, .int .i64 s.root, .int .i64 s.keys], .bool true]) ∧ Below w.heap.size w w' := by
  refine (refSupOpen_any a c l at_ w hb).mono fun e w' ⟨he, hb⟩ => ⟨?_, hb⟩
  rw [h] at he
  exact he
theorem refSupOpen_none (a : Option Addr) (c : Nat) (l : List UInt8) (at_ : Int) (h : Su.supOpen l at_ = none) (w : World) (hb : BytesAt w (.slice a l.length c) l) :
    Calls Tryd.prog 39 #[.slice a l.length c, .int .i64 at_] w fun e w' => e = .returned (.tuple #[.agg #[.int .u64 0, .int .i64 0, .int .i64 0, .int .i64 0, .int .i64 0], .bool false]) ∧ Below w.heap.size w w' := by
  refine (refSupOpen_any a c l at_ w hb).mono fun e w' ⟨he, hb⟩ => ⟨?_, hb⟩
  rw [h] at he
  exact he
def okOf (k : Nat) : Bool := k == 0
def RefChoose (r : Su.Sup × Int × Nat) (e : Ending) : Prop := e = .returned (.tuple #[supV r.1, .int .i64 r.2.1, .bool (okOf r.2.2)])
set_option maxRecDepth 100000 in
set_option maxHeartbeats 4000000 in
theorem refChoose_any (a1 a2 : Option Addr) (c1 c2 : Nat) (l m : List UInt8) (w : World) (hb1 : BytesAt w (.slice a1 l.length c1) l) (hb2 : BytesAt w (.slice a2 m.length c2) m) :
    Calls Tryd.prog 40 #[.slice a1 l.length c1, .slice a2 m.length c2] w fun e w' => RefChoose (chooseT l m) e ∧ Below w.heap.size w w' := by
  have HBL := Lib.hid hb1
  have HBM := Lib.hid hb2
  clear hb1 hb2
  have HT := Lib.hid (show chooseT l m = (match (match Su.supOpen l 0, Su.supOpen m 1 with | none, none => none | none, some t => some (t, (1 : Int)) | some s, none => some (s, 0) | some s, some t => if s.gen < t.gen then some (t, 1) else some (s, 0)) with | some (s, at_) => (s, at_, 0) | none => (Su.zero, 0, 5)) from rfl)
  cases hl : Su.supOpen l 0 with
  | none =>
    cases hm : Su.supOpen m 1 with
    | none =>
      have HL := Lib.hid hl
      have HM := Lib.hid hm
      have HTT : Hid (chooseT l m = (Su.zero, 0, 5)) := Lib.hid (by rw [HT.out, hl, hm])
      clear hl hm HT
      go_enter Tryd.func40, Tryd.ntmps40
      go_upto_region 2 with (go_at_call 39; (refine (refSupOpen_none a1 c1 l 0 HL.out _ (HBL.out.alloc _)).mono ?_); (rintro e w1 ⟨rfl, hb1⟩); (have HR1 := Lib.hid ((BoxAt.new w [.int .u64 0, .int .i64 0, .int .i64 0, .int .i64 0, .int .i64 0] 48).below hb1)); (have HB1 := Lib.hid ((show Below w.heap.size w _ by go_grown).trans (hb1.mono (by simp)))); (clear hb1))
      refine wp_name fun W hW => ?_
      have HXW := Lib.hid (show BoxAt W w1.heap.size [.int .u64 0, .int .i64 0, .int .i64 0, .int .i64 0, .int .i64 0] by rw [hW]; exact BoxAt.new w1 [_, _, _, _, _] _)
      have HRW := Lib.hid (show BoxAt W w.heap.size [.int .u64 0, .int .i64 0, .int .i64 0, .int .i64 0, .int .i64 0] by rw [hW]; exact HR1.out.alloc _)
      have HBW := Lib.hid (show Below w.heap.size w W by rw [hW]; exact HB1.out.alloc HB1.out.size _)
      have hr1 := HR1.out.lt
      clear hW
      go_upto_region 3 with (go_at_call 39; (refine (refSupOpen_none a2 c2 m 1 HM.out _ (HBM.out.below HBW.out)).mono ?_); (rintro e w2 ⟨rfl, hb2⟩); (have HR2 := Lib.hid (HRW.out.below hb2)); (have HX2 := Lib.hid (HXW.out.below hb2)); (have HB2 := Lib.hid (below_step HBW.out hb2)); (clear hb2))
      refine wp_name fun V hV => ?_
      have HXV := Lib.hid (show BoxAt V w1.heap.size [.int .u64 0, .int .i64 0, .int .i64 0, .int .i64 0, .int .i64 0] by rw [hV]; exact HX2.out.alloc _)
      have HYV := Lib.hid (show BoxAt V w2.heap.size [.int .u64 0, .int .i64 0, .int .i64 0, .int .i64 0, .int .i64 0] by rw [hV]; exact BoxAt.new w2 [_, _, _, _, _] _)
      have HRV := Lib.hid (show BoxAt V w.heap.size [.int .u64 0, .int .i64 0, .int .i64 0, .int .i64 0, .int .i64 0] by rw [hV]; exact HR2.out.alloc _)
      have HBV := Lib.hid (show Below w.heap.size w V by rw [hV]; exact HB2.out.alloc HB2.out.size _)
      have hr2 := HX2.out.lt
      have k0 : w.heap.size < w2.heap.size := by omega
      have k1 : ¬ w2.heap.size = w.heap.size := Nat.ne_of_gt k0
      have k2 : ¬ w.heap.size = w2.heap.size := Nat.ne_of_lt k0
      have k3 : ¬ w1.heap.size = w.heap.size := Nat.ne_of_gt hr1
      have k4 : ¬ w.heap.size = w1.heap.size := Nat.ne_of_lt hr1
      clear hV
      obtain ⟨x0, x1', x2', x3, x4⟩ := HXV.out.five
      obtain ⟨y0, y1, y2, y3, y4⟩ := HYV.out.five
      obtain ⟨m0, m1, m2, m3, m4⟩ := HRV.out.five
      obtain ⟨f0, f1, f2, f3, f4⟩ := HRV.out.five_free
      go_wp2_with fail
      refine bodyPost_ret (v := .tuple #[supV Su.zero, .int .i64 0, .bool false]) (by simp [results, Tryd.results40, go_sem, m0, m1, m2, m3, m4, supV, Su.zero, k0, k1, k2, k3, k4]) rfl ?_
      have hb := HBV.out
      rw [HTT.out]
      exact ⟨rfl, by go_grown⟩
    | some t =>
      have HL := Lib.hid hl
      have HM := Lib.hid hm
      have HTT : Hid (chooseT l m = (t, 1, 0)) := Lib.hid (by rw [HT.out, hl, hm])
      clear hl hm HT
      go_enter Tryd.func40, Tryd.ntmps40
      go_upto_region 2 with (go_at_call 39; (refine (refSupOpen_none a1 c1 l 0 HL.out _ (HBL.out.alloc _)).mono ?_); (rintro e w1 ⟨rfl, hb1⟩); (have HR1 := Lib.hid ((BoxAt.new w [.int .u64 0, .int .i64 0, .int .i64 0, .int .i64 0, .int .i64 0] 48).below hb1)); (have HB1 := Lib.hid ((show Below w.heap.size w _ by go_grown).trans (hb1.mono (by simp)))); (clear hb1))
      refine wp_name fun W hW => ?_
      have HXW := Lib.hid (show BoxAt W w1.heap.size [.int .u64 0, .int .i64 0, .int .i64 0, .int .i64 0, .int .i64 0] by rw [hW]; exact BoxAt.new w1 [_, _, _, _, _] _)
      have HRW := Lib.hid (show BoxAt W w.heap.size [.int .u64 0, .int .i64 0, .int .i64 0, .int .i64 0, .int .i64 0] by rw [hW]; exact HR1.out.alloc _)
      have HBW := Lib.hid (show Below w.heap.size w W by rw [hW]; exact HB1.out.alloc HB1.out.size _)
      have hr1 := HR1.out.lt
      clear hW
      go_upto_region 3 with (go_at_call 39; (refine (refSupOpen_some a2 c2 m 1 t HM.out _ (HBM.out.below HBW.out)).mono ?_); (rintro e w2 ⟨rfl, hb2⟩); (have HR2 := Lib.hid (HRW.out.below hb2)); (have HX2 := Lib.hid (HXW.out.below hb2)); (have HB2 := Lib.hid (below_step HBW.out hb2)); (clear hb2))
      refine wp_name fun V hV => ?_
      have HXV := Lib.hid (show BoxAt V w1.heap.size [.int .u64 0, .int .i64 0, .int .i64 0, .int .i64 0, .int .i64 0] by rw [hV]; exact HX2.out.alloc _)
      have HYV := Lib.hid (show BoxAt V w2.heap.size [.int .u64 (t.gen : Int), .int .i64 t.blocks, .int .i64 t.size, .int .i64 t.root, .int .i64 t.keys] by rw [hV]; exact BoxAt.new w2 [_, _, _, _, _] _)
      have HRV := Lib.hid (show BoxAt V w.heap.size [.int .u64 0, .int .i64 0, .int .i64 0, .int .i64 0, .int .i64 0] by rw [hV]; exact HR2.out.alloc _)
      have HBV := Lib.hid (show Below w.heap.size w V by rw [hV]; exact HB2.out.alloc HB2.out.size _)
      have hr2 := HX2.out.lt
      have k0 : w.heap.size < w2.heap.size := by omega
      have k1 : ¬ w2.heap.size = w.heap.size := Nat.ne_of_gt k0
      have k2 : ¬ w.heap.size = w2.heap.size := Nat.ne_of_lt k0
      have k3 : ¬ w1.heap.size = w.heap.size := Nat.ne_of_gt hr1
      have k4 : ¬ w.heap.size = w1.heap.size := Nat.ne_of_lt hr1
      clear hV
      obtain ⟨x0, x1', x2', x3, x4⟩ := HXV.out.five
      obtain ⟨y0, y1, y2, y3, y4⟩ := HYV.out.five
      obtain ⟨m0, m1, m2, m3, m4⟩ := HRV.out.five
      obtain ⟨f0, f1, f2, f3, f4⟩ := HRV.out.five_free
      go_wp2_with fail
      refine bodyPost_ret (v := .tuple #[supV t, .int .i64 1, .bool true]) (by simp [results, Tryd.results40, go_sem, m0, m1, m2, m3, m4, supV, Su.zero, k0, k1, k2, k3, k4]) rfl ?_
      have hb := HBV.out
      rw [HTT.out]
      exact ⟨rfl, by go_grown⟩
  | some s =>
    cases hm : Su.supOpen m 1 with
    | none =>
      have HL := Lib.hid hl
      have HM := Lib.hid hm
      have HTT : Hid (chooseT l m = (s, 0, 0)) := Lib.hid (by rw [HT.out, hl, hm])
      clear hl hm HT
      go_enter Tryd.func40, Tryd.ntmps40
      go_upto_region 2 with (go_at_call 39; (refine (refSupOpen_some a1 c1 l 0 s HL.out _ (HBL.out.alloc _)).mono ?_); (rintro e w1 ⟨rfl, hb1⟩); (have HR1 := Lib.hid ((BoxAt.new w [.int .u64 0, .int .i64 0, .int .i64 0, .int .i64 0, .int .i64 0] 48).below hb1)); (have HB1 := Lib.hid ((show Below w.heap.size w _ by go_grown).trans (hb1.mono (by simp)))); (clear hb1))
      refine wp_name fun W hW => ?_
      have HXW := Lib.hid (show BoxAt W w1.heap.size [.int .u64 (s.gen : Int), .int .i64 s.blocks, .int .i64 s.size, .int .i64 s.root, .int .i64 s.keys] by rw [hW]; exact BoxAt.new w1 [_, _, _, _, _] _)
      have HRW := Lib.hid (show BoxAt W w.heap.size [.int .u64 0, .int .i64 0, .int .i64 0, .int .i64 0, .int .i64 0] by rw [hW]; exact HR1.out.alloc _)
      have HBW := Lib.hid (show Below w.heap.size w W by rw [hW]; exact HB1.out.alloc HB1.out.size _)
      have hr1 := HR1.out.lt
      clear hW
      go_upto_region 3 with (go_at_call 39; (refine (refSupOpen_none a2 c2 m 1 HM.out _ (HBM.out.below HBW.out)).mono ?_); (rintro e w2 ⟨rfl, hb2⟩); (have HR2 := Lib.hid (HRW.out.below hb2)); (have HX2 := Lib.hid (HXW.out.below hb2)); (have HB2 := Lib.hid (below_step HBW.out hb2)); (clear hb2))
      refine wp_name fun V hV => ?_
      have HXV := Lib.hid (show BoxAt V w1.heap.size [.int .u64 (s.gen : Int), .int .i64 s.blocks, .int .i64 s.size, .int .i64 s.root, .int .i64 s.keys] by rw [hV]; exact HX2.out.alloc _)
      have HYV := Lib.hid (show BoxAt V w2.heap.size [.int .u64 0, .int .i64 0, .int .i64 0, .int .i64 0, .int .i64 0] by rw [hV]; exact BoxAt.new w2 [_, _, _, _, _] _)
      have HRV := Lib.hid (show BoxAt V w.heap.size [.int .u64 0, .int .i64 0, .int .i64 0, .int .i64 0, .int .i64 0] by rw [hV]; exact HR2.out.alloc _)
      have HBV := Lib.hid (show Below w.heap.size w V by rw [hV]; exact HB2.out.alloc HB2.out.size _)
      have hr2 := HX2.out.lt
      have k0 : w.heap.size < w2.heap.size := by omega
      have k1 : ¬ w2.heap.size = w.heap.size := Nat.ne_of_gt k0
      have k2 : ¬ w.heap.size = w2.heap.size := Nat.ne_of_lt k0
      have k3 : ¬ w1.heap.size = w.heap.size := Nat.ne_of_gt hr1
      have k4 : ¬ w.heap.size = w1.heap.size := Nat.ne_of_lt hr1
      clear hV
      obtain ⟨x0, x1', x2', x3, x4⟩ := HXV.out.five
      obtain ⟨y0, y1, y2, y3, y4⟩ := HYV.out.five
      obtain ⟨m0, m1, m2, m3, m4⟩ := HRV.out.five
      obtain ⟨f0, f1, f2, f3, f4⟩ := HRV.out.five_free
      go_wp2_with fail
      refine bodyPost_ret (v := .tuple #[supV s, .int .i64 0, .bool true]) (by simp [results, Tryd.results40, go_sem, m0, m1, m2, m3, m4, supV, Su.zero, k0, k1, k2, k3, k4]) rfl ?_
      have hb := HBV.out
      rw [HTT.out]
      exact ⟨rfl, by go_grown⟩
    | some t =>
      by_cases hgt : s.gen < t.gen
      · have HL := Lib.hid hl
        have HM := Lib.hid hm
        have HTT : Hid (chooseT l m = (t, 1, 0)) := Lib.hid (by rw [HT.out, hl, hm]; simp only [hgt, if_true])
        have hg2 : (s.gen : Int) < (t.gen : Int) := by omega
        clear hgt
        clear hl hm HT
        go_enter Tryd.func40, Tryd.ntmps40
        go_upto_region 2 with (go_at_call 39; (refine (refSupOpen_some a1 c1 l 0 s HL.out _ (HBL.out.alloc _)).mono ?_); (rintro e w1 ⟨rfl, hb1⟩); (have HR1 := Lib.hid ((BoxAt.new w [.int .u64 0, .int .i64 0, .int .i64 0, .int .i64 0, .int .i64 0] 48).below hb1)); (have HB1 := Lib.hid ((show Below w.heap.size w _ by go_grown).trans (hb1.mono (by simp)))); (clear hb1))
        refine wp_name fun W hW => ?_
        have HXW := Lib.hid (show BoxAt W w1.heap.size [.int .u64 (s.gen : Int), .int .i64 s.blocks, .int .i64 s.size, .int .i64 s.root, .int .i64 s.keys] by rw [hW]; exact BoxAt.new w1 [_, _, _, _, _] _)
        have HRW := Lib.hid (show BoxAt W w.heap.size [.int .u64 0, .int .i64 0, .int .i64 0, .int .i64 0, .int .i64 0] by rw [hW]; exact HR1.out.alloc _)
        have HBW := Lib.hid (show Below w.heap.size w W by rw [hW]; exact HB1.out.alloc HB1.out.size _)
        have hr1 := HR1.out.lt
        clear hW
        go_upto_region 3 with (go_at_call 39; (refine (refSupOpen_some a2 c2 m 1 t HM.out _ (HBM.out.below HBW.out)).mono ?_); (rintro e w2 ⟨rfl, hb2⟩); (have HR2 := Lib.hid (HRW.out.below hb2)); (have HX2 := Lib.hid (HXW.out.below hb2)); (have HB2 := Lib.hid (below_step HBW.out hb2)); (clear hb2))
        refine wp_name fun V hV => ?_
        have HXV := Lib.hid (show BoxAt V w1.heap.size [.int .u64 (s.gen : Int), .int .i64 s.blocks, .int .i64 s.size, .int .i64 s.root, .int .i64 s.keys] by rw [hV]; exact HX2.out.alloc _)
        have HYV := Lib.hid (show BoxAt V w2.heap.size [.int .u64 (t.gen : Int), .int .i64 t.blocks, .int .i64 t.size, .int .i64 t.root, .int .i64 t.keys] by rw [hV]; exact BoxAt.new w2 [_, _, _, _, _] _)
        have HRV := Lib.hid (show BoxAt V w.heap.size [.int .u64 0, .int .i64 0, .int .i64 0, .int .i64 0, .int .i64 0] by rw [hV]; exact HR2.out.alloc _)
        have HBV := Lib.hid (show Below w.heap.size w V by rw [hV]; exact HB2.out.alloc HB2.out.size _)
        have hr2 := HX2.out.lt
        have k0 : w.heap.size < w2.heap.size := by omega
        have k1 : ¬ w2.heap.size = w.heap.size := Nat.ne_of_gt k0
        have k2 : ¬ w.heap.size = w2.heap.size := Nat.ne_of_lt k0
        have k3 : ¬ w1.heap.size = w.heap.size := Nat.ne_of_gt hr1
        have k4 : ¬ w.heap.size = w1.heap.size := Nat.ne_of_lt hr1
        clear hV
        obtain ⟨x0, x1', x2', x3, x4⟩ := HXV.out.five
        obtain ⟨y0, y1, y2, y3, y4⟩ := HYV.out.five
        obtain ⟨m0, m1, m2, m3, m4⟩ := HRV.out.five
        obtain ⟨f0, f1, f2, f3, f4⟩ := HRV.out.five_free
        go_wp2_with fail
        refine bodyPost_ret (v := .tuple #[supV t, .int .i64 1, .bool true]) (by simp [results, Tryd.results40, go_sem, m0, m1, m2, m3, m4, supV, Su.zero, k0, k1, k2, k3, k4]) rfl ?_
        have hb := HBV.out
        rw [HTT.out]
        exact ⟨rfl, by go_grown⟩
      · have HL := Lib.hid hl
        have HM := Lib.hid hm
        have HTT : Hid (chooseT l m = (s, 0, 0)) := Lib.hid (by rw [HT.out, hl, hm]; simp only [hgt, if_false])
        have hg2 : (t.gen : Int) ≤ (s.gen : Int) := by omega
        clear hgt
        clear hl hm HT
        go_enter Tryd.func40, Tryd.ntmps40
        go_upto_region 2 with (go_at_call 39; (refine (refSupOpen_some a1 c1 l 0 s HL.out _ (HBL.out.alloc _)).mono ?_); (rintro e w1 ⟨rfl, hb1⟩); (have HR1 := Lib.hid ((BoxAt.new w [.int .u64 0, .int .i64 0, .int .i64 0, .int .i64 0, .int .i64 0] 48).below hb1)); (have HB1 := Lib.hid ((show Below w.heap.size w _ by go_grown).trans (hb1.mono (by simp)))); (clear hb1))
        refine wp_name fun W hW => ?_
        have HXW := Lib.hid (show BoxAt W w1.heap.size [.int .u64 (s.gen : Int), .int .i64 s.blocks, .int .i64 s.size, .int .i64 s.root, .int .i64 s.keys] by rw [hW]; exact BoxAt.new w1 [_, _, _, _, _] _)
        have HRW := Lib.hid (show BoxAt W w.heap.size [.int .u64 0, .int .i64 0, .int .i64 0, .int .i64 0, .int .i64 0] by rw [hW]; exact HR1.out.alloc _)
        have HBW := Lib.hid (show Below w.heap.size w W by rw [hW]; exact HB1.out.alloc HB1.out.size _)
        have hr1 := HR1.out.lt
        clear hW
        go_upto_region 3 with (go_at_call 39; (refine (refSupOpen_some a2 c2 m 1 t HM.out _ (HBM.out.below HBW.out)).mono ?_); (rintro e w2 ⟨rfl, hb2⟩); (have HR2 := Lib.hid (HRW.out.below hb2)); (have HX2 := Lib.hid (HXW.out.below hb2)); (have HB2 := Lib.hid (below_step HBW.out hb2)); (clear hb2))
        refine wp_name fun V hV => ?_
        have HXV := Lib.hid (show BoxAt V w1.heap.size [.int .u64 (s.gen : Int), .int .i64 s.blocks, .int .i64 s.size, .int .i64 s.root, .int .i64 s.keys] by rw [hV]; exact HX2.out.alloc _)
        have HYV := Lib.hid (show BoxAt V w2.heap.size [.int .u64 (t.gen : Int), .int .i64 t.blocks, .int .i64 t.size, .int .i64 t.root, .int .i64 t.keys] by rw [hV]; exact BoxAt.new w2 [_, _, _, _, _] _)
        have HRV := Lib.hid (show BoxAt V w.heap.size [.int .u64 0, .int .i64 0, .int .i64 0, .int .i64 0, .int .i64 0] by rw [hV]; exact HR2.out.alloc _)
        have HBV := Lib.hid (show Below w.heap.size w V by rw [hV]; exact HB2.out.alloc HB2.out.size _)
        have hr2 := HX2.out.lt
        have k0 : w.heap.size < w2.heap.size := by omega
        have k1 : ¬ w2.heap.size = w.heap.size := Nat.ne_of_gt k0
        have k2 : ¬ w.heap.size = w2.heap.size := Nat.ne_of_lt k0
        have k3 : ¬ w1.heap.size = w.heap.size := Nat.ne_of_gt hr1
        have k4 : ¬ w.heap.size = w1.heap.size := Nat.ne_of_lt hr1
        clear hV
        obtain ⟨x0, x1', x2', x3, x4⟩ := HXV.out.five
        obtain ⟨y0, y1, y2, y3, y4⟩ := HYV.out.five
        obtain ⟨m0, m1, m2, m3, m4⟩ := HRV.out.five
        obtain ⟨f0, f1, f2, f3, f4⟩ := HRV.out.five_free
        go_wp2_with fail
        refine bodyPost_ret (v := .tuple #[supV s, .int .i64 0, .bool true]) (by simp [results, Tryd.results40, go_sem, m0, m1, m2, m3, m4, supV, Su.zero, k0, k1, k2, k3, k4]) rfl ?_
        have hb := HBV.out
        rw [HTT.out]
        exact ⟨rfl, by go_grown⟩
end Go.Proofs.YtaofhdoieffhhaaDoor
