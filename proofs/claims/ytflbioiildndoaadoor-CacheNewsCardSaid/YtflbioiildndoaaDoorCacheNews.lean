/- the statements of caches: CacheNews (printed by wip/tools/gen_cachenews.py) -/
import Derived.Test.YtflbioiildndoaaDoorCacheA
import Derived.Test.YtflbioiildndoaaDoorTells08
namespace Go.Proofs.YtflbioiildndoaaDoor
open Go.RowKit
set_option linter.unusedVariables false
set_option linter.unusedSimpArgs false

def NilErr (A : Nat → Addr) (w : World) (e : Ending) (w' : World) : Prop := ∃ l t x, e = .returned (.iface t x) ∧ ErrIs w' A w.heap.size l 7 (.iface t x)
set_option maxRecDepth 100000 in
theorem cget_nil {S : Nat → Prop} [Has S 7] (id : Int) (w : World) (A : Nat → Addr) (hs : SentsOn S w A) :
    Calls Tryd.prog 40 #[.pointer none, .int .i64 id] w fun e w' => (∃ l t x, e = .returned (.tuple #[.agg #[.int .i64 0, .int .i64 0, .int .u64 0, .slice none 0 0], .iface t x]) ∧ ErrIs w' A w.heap.size l 7 (.iface t x)) ∧ Below w.heap.size w w' := by
  have HS := Lib.hid hs
  clear hs
  go_enter Tryd.func40, Tryd.ntmps40
  go_upto_region 1 with fail
  obtain ⟨nb, hnb⟩ : ∃ nb, w.heap.size = nb := ⟨_, rfl⟩
  refine wp_name fun W hW => ?_
  have HX := Lib.hid (show BoxAt W nb [.int .i64 0, .int .i64 0, .int .u64 0, .slice none 0 0] by rw [hW]; exact BoxAt.newAt _ _ hnb [_, _, _, _] _)
  have hbW : Below w.heap.size w W := by rw [hW]; exact (Below.refl _ _).alloc (Nat.le_refl _) _
  have HBW := Lib.hid hbW
  have HNB := Lib.hid hnb
  have hsW : nb < W.heap.size := HX.out.lt
  clear hW hbW
  rw [hnb]
  clear hnb
  go_upto_region 3 with (go_at_call 69; (refine (ccheck_nil _ id _ A (HS.out.below HBW.out)).mono ?_); (rintro e w3 ⟨⟨l3, v3, rfl, hE3⟩, hb3⟩); (obtain ⟨t3, z3, rfl⟩ := hE3.iface (by decide)); (have HE3 := Lib.hid hE3); (have HB3 := Lib.hid hb3); (clear hE3 hb3))
  have HX3 := Lib.hid (HX.out.below HB3.out)
  obtain ⟨x0, x1, x2, x3⟩ := HX3.out.four
  obtain ⟨y0, y1, y2, y3⟩ := HX3.out.four_free
  go_wp2_with fail
  refine bodyPost_ret (v := .tuple #[.agg #[.int .i64 0, .int .i64 0, .int .u64 0, .slice none 0 0], .iface t3 z3]) (by simp [results, Tryd.results40, go_sem, x0, x1, x2, x3]) rfl ?_
  have hs3 : W.heap.size ≤ w3.heap.size := HB3.out.size
  have hwn := HNB.out
  exact ⟨⟨_, _, _, rfl, ((((HE3.out.setLow _ (by omega)).setLow _ (by omega)).setLow _ (by omega)).setLow _ (by omega)).mono (by omega)⟩, (below_step HBW.out HB3.out).trans (below_of_grown (grown4 w3 nb _ _ _ _) (by omega) (by omega))⟩
set_option maxRecDepth 100000 in
theorem cput_nil {S : Nat → Prop} [Has S 7] (k id g : Int) (bv : Value) (w : World) (A : Nat → Addr) (hs : SentsOn S w A) :
    Calls Tryd.prog 38 #[.pointer none, .agg #[.int .i64 k, .int .i64 id, .int .u64 g, bv]] w fun e w' => NilErr A w e w' ∧ Below w.heap.size w w' := by
  have HS := Lib.hid hs
  have HA := Lib.hid (fun o : Obj => (Below.refl w.heap.size w).alloc (Nat.le_refl _) o)
  clear hs
  go_enter Tryd.func38, Tryd.ntmps38
  go_wp2_with (go_at_call 69; (refine (ccheck_nil _ id _ A (HS.out.below (HA.out _))).mono ?_); (rintro e w3 ⟨⟨l3, v3, rfl, hE3⟩, hb3⟩); (obtain ⟨t3, z3, rfl⟩ := hE3.iface (by decide)); (have HE3 := Lib.hid hE3); (have HB3 := Lib.hid hb3); (clear hE3 hb3))
  go_ret
  exact ⟨⟨_, _, _, rfl, HE3.out.mono (HA.out _).size⟩, below_step (HA.out _) HB3.out⟩
theorem cpin_nil {S : Nat → Prop} [Has S 7] (id : Int) (w : World) (A : Nat → Addr) (hs : SentsOn S w A) :
    Calls Tryd.prog 43 #[.pointer none, .int .i64 id] w fun e w' => NilErr A w e w' ∧ Below w.heap.size w w' := by
  have HS := Lib.hid hs
  clear hs
  go_enter Tryd.func43, Tryd.ntmps43
  go_wp2_with (go_at_call 69; (refine (ccheck_nil _ id _ A HS.out).mono ?_); (rintro e w3 ⟨⟨l3, v3, rfl, hE3⟩, hb3⟩); (obtain ⟨t3, z3, rfl⟩ := hE3.iface (by decide)); (have HE3 := Lib.hid hE3); (have HB3 := Lib.hid hb3); (clear hE3 hb3))
  go_ret
  exact ⟨⟨_, _, _, rfl, HE3.out⟩, HB3.out⟩
theorem cunpin_nil {S : Nat → Prop} [Has S 7] (id : Int) (w : World) (A : Nat → Addr) (hs : SentsOn S w A) :
    Calls Tryd.prog 50 #[.pointer none, .int .i64 id] w fun e w' => NilErr A w e w' ∧ Below w.heap.size w w' := by
  have HS := Lib.hid hs
  clear hs
  go_enter Tryd.func50, Tryd.ntmps50
  go_wp2_with (go_at_call 69; (refine (ccheck_nil _ id _ A HS.out).mono ?_); (rintro e w3 ⟨⟨l3, v3, rfl, hE3⟩, hb3⟩); (obtain ⟨t3, z3, rfl⟩ := hE3.iface (by decide)); (have HE3 := Lib.hid hE3); (have HB3 := Lib.hid hb3); (clear hE3 hb3))
  go_ret
  exact ⟨⟨_, _, _, rfl, HE3.out⟩, HB3.out⟩
theorem cflush_nil {S : Nat → Prop} [Has S 7] (w : World) (A : Nat → Addr) (hs : SentsOn S w A) :
    Calls Tryd.prog 51 #[.pointer none] w fun e w' => NilErr A w e w' ∧ Below w.heap.size w w' := by
  have g2 : w.cell? ⟨1, 0, none⟩ = some (.iface 171 (.pointer (some (A 7)))) := hs.cell 7 (by decide) (by decide)
  have HE := Lib.hid (sent_err (w := w) (A := A) (B := w.heap.size) 7 (by decide) (by decide))
  clear hs
  go_enter Tryd.func51, Tryd.ntmps51
  go_wp2_with (go_at_call 54; (refine (faultNew_any _ 7 _ _ A w.heap.size HE.out (by decide) (Nat.le_refl _)).mono ?_); (rintro e w' ⟨⟨v, rfl, hv⟩, hb⟩); (obtain ⟨t3, z3, rfl⟩ := hv.iface (by decide)))
  go_ret
  exact ⟨⟨_, _, _, rfl, hv⟩, hb⟩
theorem cforget_nil (w : World) :
    Calls Tryd.prog 49 #[.pointer none] w fun e w' => (∃ v, e = .returned v) ∧ w = w' := by
  go_enter Tryd.func49, Tryd.ntmps49
  go_wp2_with fail
  go_end0
  exact ⟨⟨_, rfl⟩, rfl⟩
theorem cdrop_nil (id : Int) (w : World) :
    Calls Tryd.prog 52 #[.pointer none, .int .i64 id] w fun e w' => e = .returned (.bool false) ∧ w = w' := by
  go_enter Tryd.func52, Tryd.ntmps52
  go_wp2_with fail
  go_ret
  exact ⟨rfl, rfl⟩

set_option maxRecDepth 100000 in
set_option maxHeartbeats 8000000 in
theorem cacheNews_walk (n : Int) (q : CCall) (w : World) (A : Nat → Addr) (hs : Sents w A) :
    Calls Tryd.prog 12 #[.int .i64 n, .agg #[.int .i64 q.kind, .int .i64 q.id, .int .u8 (q.fill.toNat : Int), .bool q.bad]] w fun e w' => e = .returned (.bool true) ∧ Below w.heap.size w w' := by
  have HS := Lib.hid hs
  clear hs
  go_enter Tryd.func12, Tryd.ntmps12
  go_upto_region 1 with fail
  obtain ⟨nb, hnb⟩ : ∃ nb, w.heap.size = nb := ⟨_, rfl⟩
  refine wp_name fun W hW => ?_
  have HX := Lib.hid (show BoxAt W nb [.int .i64 q.kind, .int .i64 q.id, .int .u8 (q.fill.toNat : Int), .bool q.bad] by rw [hW]; exact BoxAt.newAt _ _ hnb [_, _, _, _] _)
  have HBW := Lib.hid (show Below w.heap.size w W by rw [hW]; exact (Below.refl _ _).alloc (Nat.le_refl _) _)
  clear hW
  rw [hnb]
  clear hnb
  go_upto_region 4 with (first
    | (go_at_call 13; (refine (new_ok4 12 256 (by omega) (by omega) _).mono ?_); (rintro e w2 ⟨⟨dp, rfl, hd⟩, hb⟩); (have HD := Lib.hid hd); (have HB := Lib.hid hb); (clear hd hb))
    | (go_at_call 47; (refine (small08_is _).mono ?_); (rintro e w1 ⟨rfl, hb⟩); (have HB1 := Lib.hid hb); (clear hb)))
  have HB2 := Lib.hid (below_step HBW.out (below_step HB1.out HB.out))
  have HX2 := Lib.hid ((HX.out.below HB1.out).below HB.out)
  by_cases hn : 3 ≤ n ∧ n ≤ 64
  · obtain ⟨hn1, hn2⟩ := hn
    obtain ⟨N, rfl⟩ : ∃ N : Nat, n = (N : Int) := ⟨n.toNat, by omega⟩
    have hn3 : ¬ (N : Int) < 3 := by omega
    have hn4 : ¬ (64 : Int) < (N : Int) := by omega
    go_upto_region 5 with (go_at_call 48; (refine (cnew_ok HD.out (fun k hk => hk.2) N (by omega) (by omega) _ rfl).mono ?_); (rintro e w3 ⟨⟨c3, rg3, rc3, rfl, -⟩, hb3⟩); (have HB3 := Lib.hid hb3); (have HE3 := Lib.hid (ErrIs.nil w3 A w2.heap.size)); (clear hb3))
    have HX3 := Lib.hid (HX2.out.below HB3.out)
    have HB5 := Lib.hid (below_step HB2.out HB3.out)
    go_upto_region 9 with (go_at_call 48; (refine (cnew_nil _ _ A (HS.out.below HB5.out)).mono ?_); (rintro e w4 ⟨⟨l4, v4, rfl, hE4⟩, hb4⟩); (obtain ⟨t4, z4, rfl⟩ := hE4.iface (by decide)); (have HE4 := Lib.hid hE4); (have HB4 := Lib.hid hb4); (clear hE4 hb4))
    have HB6 := Lib.hid (below_step HB5.out HB4.out)
    have HX4 := Lib.hid (HX3.out.below HB4.out)
    have HE3' := Lib.hid (HE3.out.below HB4.out)
    go_upto_region 12 with (first
      | (go_at_call 44; (refine (tells08_any (HS.out.below HTT.out) _ 7 _ HE4.out 7 rfl).mono ?_); (rintro e w5 ⟨rfl, rfl⟩))
      | (go_at_call 44; (refine (tells08_any (HS.out.below HB6.out) _ 0 _ HE3'.out _ rfl).mono ?_); (rintro e w5 ⟨rfl, rfl⟩); (have HTT := HB6)))
    go_upto_region 13 with (go_at_call 49; (refine (cforget_nil _).mono ?_); (rintro e w5 ⟨⟨v5, rfl⟩, rfl⟩))
    obtain ⟨x0, x1, x2, x3⟩ := HX4.out.four
    go_upto_region 14 with (go_at_call 40; (refine (cget_nil q.id _ A (HS.out.below HB6.out)).mono ?_); (rintro e w7 ⟨⟨l7, t7, z7, rfl, hE7⟩, hb7⟩); (have HE7 := Lib.hid hE7); (have HB7 := Lib.hid hb7); (clear hE7 hb7))
    refine wp_name fun W8 hW8 => ?_
    have hb8 : Below w7.heap.size w7 W8 := by rw [hW8]; exact (Below.refl _ _).alloc (Nat.le_refl _) _
    have HB8 := Lib.hid (below_step HB6.out (below_step HB7.out hb8))
    have HX8 := Lib.hid ((HX4.out.below HB7.out).below hb8)
    have HE8 := Lib.hid (HE7.out.below hb8)
    clear hW8 hb8 x0 x1 x2 x3
    obtain ⟨x0, x1, x2, x3⟩ := HX8.out.four
    go_upto_region 16 with (first
      | (go_at_call 44; (refine (tells08_any (HS.out.below HBF.out) _ 7 _ HEF.out 7 rfl).mono ?_); (rintro e wx ⟨rfl, rfl⟩))
      | (go_at_call 51; (refine (cflush_nil _ A (HS.out.below HBU.out)).mono ?_); (rintro e wf ⟨⟨lf, tf, zf, rfl, hEf⟩, hbf⟩); (have HEF := Lib.hid hEf); (have HBFU := Lib.hid hbf); (have HBF := Lib.hid (below_step HBU.out hbf)); (clear hEf hbf))
      | (go_at_call 44; (refine (tells08_any (HS.out.below HBU.out) _ 7 _ HEU.out 7 rfl).mono ?_); (rintro e wx ⟨rfl, rfl⟩))
      | (go_at_call 50; (refine (cunpin_nil q.id _ A (HS.out.below HBI.out)).mono ?_); (rintro e wu ⟨⟨lu, tu, zu, rfl, hEu⟩, hbu⟩); (have HEU := Lib.hid hEu); (have HBU := Lib.hid (below_step HBI.out hbu)); (have HXU := Lib.hid (HXI.out.below hbu)); (clear hEu hbu x0 x1 x2 x3); (obtain ⟨x0, x1, x2, x3⟩ := HXU.out.four))
      | (go_at_call 44; (refine (tells08_any (HS.out.below HBI.out) _ 7 _ HEI.out 7 rfl).mono ?_); (rintro e wx ⟨rfl, rfl⟩))
      | (go_at_call 43; (refine (cpin_nil q.id _ A (HS.out.below HBP.out)).mono ?_); (rintro e wi ⟨⟨li, ti, zi, rfl, hEi⟩, hbi⟩); (have HEI := Lib.hid hEi); (have HBI := Lib.hid (below_step HBP.out hbi)); (have HXI := Lib.hid (HXP.out.below hbi)); (clear hEi hbi x0 x1 x2 x3); (obtain ⟨x0, x1, x2, x3⟩ := HXI.out.four))
      | (go_at_call 44; (refine (tells08_any (HS.out.below HBP.out) _ 7 _ HEP.out 7 rfl).mono ?_); (rintro e wx ⟨rfl, rfl⟩))
      | (go_at_call 38; (refine (cput_nil 3 q.id 1 _ _ A (HS.out.below HBL.out)).mono ?_); (rintro e wp ⟨⟨lp, tp, zp, rfl, hEp⟩, hbp⟩); (have HEP := Lib.hid hEp); (have HBP := Lib.hid (below_step HBL.out hbp)); (have HXP := Lib.hid (HXL.out.below hbp)); (clear hEp hbp x0 x1 x2 x3); (obtain ⟨x0, x1, x2, x3⟩ := HXP.out.four))
      | (go_at_call 39; (refine (leaf08_is q.id q.fill _ rfl _).mono ?_); (rintro e wl ⟨⟨gl, rfl, -, -, -, -⟩, hbl⟩); (have HBL := Lib.hid (below_step HT8.out hbl)); (have HXL := Lib.hid (HX8.out.below hbl)); (clear hbl x0 x1 x2 x3); (obtain ⟨x0, x1, x2, x3⟩ := HXL.out.four))
      | (go_at_call 44; (refine (tells08_any (HS.out.below HB8.out) _ 7 _ HE8.out 7 rfl).mono ?_); (rintro e wx ⟨rfl, rfl⟩); (have HT8 := HB8)))
    clear x0 x1 x2 x3
    have HXF2 := Lib.hid (HXU.out.belowB HBFU.out HXU.out.lt)
    obtain ⟨x0, x1, x2, x3⟩ := HXF2.out.four
    go_wp2_with (first
      | (go_at_call 45; (refine (cdisk_nil _).mono ?_); (rintro e wx ⟨rfl, rfl⟩))
      | (go_at_call 52; (refine (cdrop_nil q.id _).mono ?_); (rintro e wx ⟨rfl, rfl⟩))
      | (go_at_call 41; (refine (cheld_nil _).mono ?_); (rintro e wx ⟨rfl, rfl⟩))
      | (go_at_call 53; (refine (cdirty_nil _).mono ?_); (rintro e wx ⟨rfl, rfl⟩))
      | (go_at_call 42; (refine (awake08_any _ A (HS.out.below HBF.out)).mono ?_); (rintro e w9 ⟨rfl, hb9⟩); (have HB9 := Lib.hid hb9); (clear hb9)))
    go_ret
    exact ⟨rfl, below_step HBF.out HB9.out⟩
  · by_cases hn1 : n < 3
    · clear hn
      go_upto_region 5 with (go_at_call 48; (refine (cnew_bad dp n (.inl hn1) _ A (HS.out.below HB2.out)).mono ?_); (rintro e w3 ⟨⟨l3, v3, rfl, hE3⟩, hb3⟩); (obtain ⟨t3, z3, rfl⟩ := hE3.iface (by decide)); (have HE3 := Lib.hid hE3); (have HB3 := Lib.hid hb3); (clear hE3 hb3))
      have HX3 := Lib.hid (HX2.out.below HB3.out)
      have HB5 := Lib.hid (below_step HB2.out HB3.out)
      go_upto_region 9 with (go_at_call 48; (refine (cnew_nil _ _ A (HS.out.below HB5.out)).mono ?_); (rintro e w4 ⟨⟨l4, v4, rfl, hE4⟩, hb4⟩); (obtain ⟨t4, z4, rfl⟩ := hE4.iface (by decide)); (have HE4 := Lib.hid hE4); (have HB4 := Lib.hid hb4); (clear hE4 hb4))
      have HB6 := Lib.hid (below_step HB5.out HB4.out)
      have HX4 := Lib.hid (HX3.out.below HB4.out)
      have HE3' := Lib.hid (HE3.out.below HB4.out)
      go_upto_region 12 with (first
        | (go_at_call 44; (refine (tells08_any (HS.out.below HTT.out) _ 7 _ HE4.out 7 rfl).mono ?_); (rintro e w5 ⟨rfl, rfl⟩))
        | (go_at_call 44; (refine (tells08_any (HS.out.below HB6.out) _ 2 _ HE3'.out _ rfl).mono ?_); (rintro e w5 ⟨rfl, rfl⟩); (have HTT := HB6)))
      go_upto_region 13 with (go_at_call 49; (refine (cforget_nil _).mono ?_); (rintro e w5 ⟨⟨v5, rfl⟩, rfl⟩))
      obtain ⟨x0, x1, x2, x3⟩ := HX4.out.four
      go_upto_region 14 with (go_at_call 40; (refine (cget_nil q.id _ A (HS.out.below HB6.out)).mono ?_); (rintro e w7 ⟨⟨l7, t7, z7, rfl, hE7⟩, hb7⟩); (have HE7 := Lib.hid hE7); (have HB7 := Lib.hid hb7); (clear hE7 hb7))
      refine wp_name fun W8 hW8 => ?_
      have hb8 : Below w7.heap.size w7 W8 := by rw [hW8]; exact (Below.refl _ _).alloc (Nat.le_refl _) _
      have HB8 := Lib.hid (below_step HB6.out (below_step HB7.out hb8))
      have HX8 := Lib.hid ((HX4.out.below HB7.out).below hb8)
      have HE8 := Lib.hid (HE7.out.below hb8)
      clear hW8 hb8 x0 x1 x2 x3
      obtain ⟨x0, x1, x2, x3⟩ := HX8.out.four
      go_upto_region 16 with (first
        | (go_at_call 44; (refine (tells08_any (HS.out.below HBF.out) _ 7 _ HEF.out 7 rfl).mono ?_); (rintro e wx ⟨rfl, rfl⟩))
        | (go_at_call 51; (refine (cflush_nil _ A (HS.out.below HBU.out)).mono ?_); (rintro e wf ⟨⟨lf, tf, zf, rfl, hEf⟩, hbf⟩); (have HEF := Lib.hid hEf); (have HBFU := Lib.hid hbf); (have HBF := Lib.hid (below_step HBU.out hbf)); (clear hEf hbf))
        | (go_at_call 44; (refine (tells08_any (HS.out.below HBU.out) _ 7 _ HEU.out 7 rfl).mono ?_); (rintro e wx ⟨rfl, rfl⟩))
        | (go_at_call 50; (refine (cunpin_nil q.id _ A (HS.out.below HBI.out)).mono ?_); (rintro e wu ⟨⟨lu, tu, zu, rfl, hEu⟩, hbu⟩); (have HEU := Lib.hid hEu); (have HBU := Lib.hid (below_step HBI.out hbu)); (have HXU := Lib.hid (HXI.out.below hbu)); (clear hEu hbu x0 x1 x2 x3); (obtain ⟨x0, x1, x2, x3⟩ := HXU.out.four))
        | (go_at_call 44; (refine (tells08_any (HS.out.below HBI.out) _ 7 _ HEI.out 7 rfl).mono ?_); (rintro e wx ⟨rfl, rfl⟩))
        | (go_at_call 43; (refine (cpin_nil q.id _ A (HS.out.below HBP.out)).mono ?_); (rintro e wi ⟨⟨li, ti, zi, rfl, hEi⟩, hbi⟩); (have HEI := Lib.hid hEi); (have HBI := Lib.hid (below_step HBP.out hbi)); (have HXI := Lib.hid (HXP.out.below hbi)); (clear hEi hbi x0 x1 x2 x3); (obtain ⟨x0, x1, x2, x3⟩ := HXI.out.four))
        | (go_at_call 44; (refine (tells08_any (HS.out.below HBP.out) _ 7 _ HEP.out 7 rfl).mono ?_); (rintro e wx ⟨rfl, rfl⟩))
        | (go_at_call 38; (refine (cput_nil 3 q.id 1 _ _ A (HS.out.below HBL.out)).mono ?_); (rintro e wp ⟨⟨lp, tp, zp, rfl, hEp⟩, hbp⟩); (have HEP := Lib.hid hEp); (have HBP := Lib.hid (below_step HBL.out hbp)); (have HXP := Lib.hid (HXL.out.below hbp)); (clear hEp hbp x0 x1 x2 x3); (obtain ⟨x0, x1, x2, x3⟩ := HXP.out.four))
        | (go_at_call 39; (refine (leaf08_is q.id q.fill _ rfl _).mono ?_); (rintro e wl ⟨⟨gl, rfl, -, -, -, -⟩, hbl⟩); (have HBL := Lib.hid (below_step HT8.out hbl)); (have HXL := Lib.hid (HX8.out.below hbl)); (clear hbl x0 x1 x2 x3); (obtain ⟨x0, x1, x2, x3⟩ := HXL.out.four))
        | (go_at_call 44; (refine (tells08_any (HS.out.below HB8.out) _ 7 _ HE8.out 7 rfl).mono ?_); (rintro e wx ⟨rfl, rfl⟩); (have HT8 := HB8)))
      clear x0 x1 x2 x3
      have HXF2 := Lib.hid (HXU.out.belowB HBFU.out HXU.out.lt)
      obtain ⟨x0, x1, x2, x3⟩ := HXF2.out.four
      go_wp2_with (first
        | (go_at_call 45; (refine (cdisk_nil _).mono ?_); (rintro e wx ⟨rfl, rfl⟩))
        | (go_at_call 52; (refine (cdrop_nil q.id _).mono ?_); (rintro e wx ⟨rfl, rfl⟩))
        | (go_at_call 41; (refine (cheld_nil _).mono ?_); (rintro e wx ⟨rfl, rfl⟩))
        | (go_at_call 53; (refine (cdirty_nil _).mono ?_); (rintro e wx ⟨rfl, rfl⟩))
        | (go_at_call 42; (refine (awake08_any _ A (HS.out.below HBF.out)).mono ?_); (rintro e w9 ⟨rfl, hb9⟩); (have HB9 := Lib.hid hb9); (clear hb9)))
      go_ret
      exact ⟨rfl, below_step HBF.out HB9.out⟩
    · have hn2 : 3 ≤ n := by omega
      have hn3 : 64 < n := by omega
      clear hn hn1
      go_upto_region 5 with (go_at_call 48; (refine (cnew_bad dp n (.inr hn3) _ A (HS.out.below HB2.out)).mono ?_); (rintro e w3 ⟨⟨l3, v3, rfl, hE3⟩, hb3⟩); (obtain ⟨t3, z3, rfl⟩ := hE3.iface (by decide)); (have HE3 := Lib.hid hE3); (have HB3 := Lib.hid hb3); (clear hE3 hb3))
      have HX3 := Lib.hid (HX2.out.below HB3.out)
      have HB5 := Lib.hid (below_step HB2.out HB3.out)
      go_upto_region 9 with (go_at_call 48; (refine (cnew_nil _ _ A (HS.out.below HB5.out)).mono ?_); (rintro e w4 ⟨⟨l4, v4, rfl, hE4⟩, hb4⟩); (obtain ⟨t4, z4, rfl⟩ := hE4.iface (by decide)); (have HE4 := Lib.hid hE4); (have HB4 := Lib.hid hb4); (clear hE4 hb4))
      have HB6 := Lib.hid (below_step HB5.out HB4.out)
      have HX4 := Lib.hid (HX3.out.below HB4.out)
      have HE3' := Lib.hid (HE3.out.below HB4.out)
      go_upto_region 12 with (first
        | (go_at_call 44; (refine (tells08_any (HS.out.below HTT.out) _ 7 _ HE4.out 7 rfl).mono ?_); (rintro e w5 ⟨rfl, rfl⟩))
        | (go_at_call 44; (refine (tells08_any (HS.out.below HB6.out) _ 2 _ HE3'.out _ rfl).mono ?_); (rintro e w5 ⟨rfl, rfl⟩); (have HTT := HB6)))
      go_upto_region 13 with (go_at_call 49; (refine (cforget_nil _).mono ?_); (rintro e w5 ⟨⟨v5, rfl⟩, rfl⟩))
      obtain ⟨x0, x1, x2, x3⟩ := HX4.out.four
      go_upto_region 14 with (go_at_call 40; (refine (cget_nil q.id _ A (HS.out.below HB6.out)).mono ?_); (rintro e w7 ⟨⟨l7, t7, z7, rfl, hE7⟩, hb7⟩); (have HE7 := Lib.hid hE7); (have HB7 := Lib.hid hb7); (clear hE7 hb7))
      refine wp_name fun W8 hW8 => ?_
      have hb8 : Below w7.heap.size w7 W8 := by rw [hW8]; exact (Below.refl _ _).alloc (Nat.le_refl _) _
      have HB8 := Lib.hid (below_step HB6.out (below_step HB7.out hb8))
      have HX8 := Lib.hid ((HX4.out.below HB7.out).below hb8)
      have HE8 := Lib.hid (HE7.out.below hb8)
      clear hW8 hb8 x0 x1 x2 x3
      obtain ⟨x0, x1, x2, x3⟩ := HX8.out.four
      go_upto_region 16 with (first
        | (go_at_call 44; (refine (tells08_any (HS.out.below HBF.out) _ 7 _ HEF.out 7 rfl).mono ?_); (rintro e wx ⟨rfl, rfl⟩))
        | (go_at_call 51; (refine (cflush_nil _ A (HS.out.below HBU.out)).mono ?_); (rintro e wf ⟨⟨lf, tf, zf, rfl, hEf⟩, hbf⟩); (have HEF := Lib.hid hEf); (have HBFU := Lib.hid hbf); (have HBF := Lib.hid (below_step HBU.out hbf)); (clear hEf hbf))
        | (go_at_call 44; (refine (tells08_any (HS.out.below HBU.out) _ 7 _ HEU.out 7 rfl).mono ?_); (rintro e wx ⟨rfl, rfl⟩))
        | (go_at_call 50; (refine (cunpin_nil q.id _ A (HS.out.below HBI.out)).mono ?_); (rintro e wu ⟨⟨lu, tu, zu, rfl, hEu⟩, hbu⟩); (have HEU := Lib.hid hEu); (have HBU := Lib.hid (below_step HBI.out hbu)); (have HXU := Lib.hid (HXI.out.below hbu)); (clear hEu hbu x0 x1 x2 x3); (obtain ⟨x0, x1, x2, x3⟩ := HXU.out.four))
        | (go_at_call 44; (refine (tells08_any (HS.out.below HBI.out) _ 7 _ HEI.out 7 rfl).mono ?_); (rintro e wx ⟨rfl, rfl⟩))
        | (go_at_call 43; (refine (cpin_nil q.id _ A (HS.out.below HBP.out)).mono ?_); (rintro e wi ⟨⟨li, ti, zi, rfl, hEi⟩, hbi⟩); (have HEI := Lib.hid hEi); (have HBI := Lib.hid (below_step HBP.out hbi)); (have HXI := Lib.hid (HXP.out.below hbi)); (clear hEi hbi x0 x1 x2 x3); (obtain ⟨x0, x1, x2, x3⟩ := HXI.out.four))
        | (go_at_call 44; (refine (tells08_any (HS.out.below HBP.out) _ 7 _ HEP.out 7 rfl).mono ?_); (rintro e wx ⟨rfl, rfl⟩))
        | (go_at_call 38; (refine (cput_nil 3 q.id 1 _ _ A (HS.out.below HBL.out)).mono ?_); (rintro e wp ⟨⟨lp, tp, zp, rfl, hEp⟩, hbp⟩); (have HEP := Lib.hid hEp); (have HBP := Lib.hid (below_step HBL.out hbp)); (have HXP := Lib.hid (HXL.out.below hbp)); (clear hEp hbp x0 x1 x2 x3); (obtain ⟨x0, x1, x2, x3⟩ := HXP.out.four))
        | (go_at_call 39; (refine (leaf08_is q.id q.fill _ rfl _).mono ?_); (rintro e wl ⟨⟨gl, rfl, -, -, -, -⟩, hbl⟩); (have HBL := Lib.hid (below_step HT8.out hbl)); (have HXL := Lib.hid (HX8.out.below hbl)); (clear hbl x0 x1 x2 x3); (obtain ⟨x0, x1, x2, x3⟩ := HXL.out.four))
        | (go_at_call 44; (refine (tells08_any (HS.out.below HB8.out) _ 7 _ HE8.out 7 rfl).mono ?_); (rintro e wx ⟨rfl, rfl⟩); (have HT8 := HB8)))
      clear x0 x1 x2 x3
      have HXF2 := Lib.hid (HXU.out.belowB HBFU.out HXU.out.lt)
      obtain ⟨x0, x1, x2, x3⟩ := HXF2.out.four
      go_wp2_with (first
        | (go_at_call 45; (refine (cdisk_nil _).mono ?_); (rintro e wx ⟨rfl, rfl⟩))
        | (go_at_call 52; (refine (cdrop_nil q.id _).mono ?_); (rintro e wx ⟨rfl, rfl⟩))
        | (go_at_call 41; (refine (cheld_nil _).mono ?_); (rintro e wx ⟨rfl, rfl⟩))
        | (go_at_call 53; (refine (cdirty_nil _).mono ?_); (rintro e wx ⟨rfl, rfl⟩))
        | (go_at_call 42; (refine (awake08_any _ A (HS.out.below HBF.out)).mono ?_); (rintro e w9 ⟨rfl, hb9⟩); (have HB9 := Lib.hid hb9); (clear hb9)))
      go_ret
      exact ⟨rfl, below_step HBF.out HB9.out⟩
end Go.Proofs.YtflbioiildndoaaDoor

