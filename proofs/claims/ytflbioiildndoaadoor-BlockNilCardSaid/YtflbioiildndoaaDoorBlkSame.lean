/- the statements of disks: same, all (printed by wip/tools/gen_same04.py) -/
import Derived.Test.YtflbioiildndoaaDoorBlkStep1
namespace Go.Proofs.YtflbioiildndoaaDoor
open Go.RowKit
set_option linter.unusedVariables false
set_option linter.unusedSimpArgs false

theorem same_self (v1 v2 : Value) (l : List UInt8) (w : World) (h1 : BytesAt w v1 l) (h2 : BytesAt w v2 l) :
    Calls Tryd.prog 35 #[v1, v2] w fun e w' => e = .returned (.bool true) ∧ Below w.heap.size w w' := by
  have := same_any v1 v2 l l w h1 h2
  simpa using this
/-- two disks that show the same, whatever their fuses -/
structure Obs (e d : Bk.Disk) : Prop where
  blocks : e.blocks = d.blocks
  last : e.lasting = d.lasting
  wait : e.waiting = d.waiting
  off : e.off = d.off
  count : e.count = d.count
theorem Obs.refl (d : Bk.Disk) : Obs d d := ⟨rfl, rfl, rfl, rfl, rfl⟩
theorem Obs.lastB {e d : Bk.Disk} (h : Obs e d) (i : Nat) : Bk.lastB e i = Bk.lastB d i := by unfold Bk.lastB; rw [h.last]
theorem Obs.read {e d : Bk.Disk} (h : Obs e d) (i : Nat) : Bk.read e i = Bk.read d i := by unfold Bk.read; rw [h.lastB, h.wait]
theorem Obs.inD {e d : Bk.Disk} (h : Obs e d) {i : Int} (hi : Bk.In d i) : Bk.In e i := by unfold Bk.In at hi ⊢; rw [h.blocks]; exact hi
theorem refIn4_as (d : Bk.Disk) (lv wv kv : Value) (X : Value) (hX : refD d lv wv kv = X) (i : Int) (B : Bool) (hB : decide (Bk.In d i) = B) (w : World) :
    Calls Tryd.prog 82 #[X, .int .i64 i] w fun e w' => e = .returned (.bool B) ∧ Below w.heap.size w w' := by subst hX; exact refIn4_is d lv wv kv i B hB w

set_option maxRecDepth 100000 in
set_option maxHeartbeats 1000000 in
theorem same04_out {F G : Nat → Prop} {w : World} {p n m : Nat} {e d : Bk.Disk} {v : Value} (hd : DiskAt F w p e) (hoe : Bk.Ok m e) (hob : Obs e d) (hr : RefAt G w v d) (hF : Held F w) (hG : Held G w) (ho : Bk.Ok n d) (A : Nat → Addr) (hs : Sents w A) (i : Int) (hi : ¬ Bk.In d i) :
    Calls Tryd.prog 65 #[.pointer (some ⟨p, 0, none⟩), v, .int .i64 i] w fun e w' => e = .returned (.bool true) ∧ Below w.heap.size w w' := by
  obtain ⟨lv, wv, kv, xs, ys, rfl, h⟩ := hr
  obtain ⟨la, lc, wa, wc, ka, kc, rfl, rfl, rfl⟩ := h.shape
  have H := Lib.hid h
  have HD := Lib.hid hd
  have HOE := Lib.hid hoe
  have HOB := Lib.hid hob
  have HF := Lib.hid hF
  have HG := Lib.hid hG
  have HO := Lib.hid ho
  have HS := Lib.hid hs
  have HV := Lib.hid (show refD d (.slice la xs.length lc) (.slice wa ys.length wc) (.slice ka d.keep.length kc) = .agg #[.int .i64 (d.blocks : Int), .int .i64 (d.size : Int), .slice la xs.length lc, .slice wa ys.length wc, .bool d.lit, .int .i64 d.after, .int .i64 d.torn, .int .i64 d.cut, .slice ka d.keep.length kc, .bool d.off, .int .i64 d.count] by unfold refD; first | rw [hoff] | rfl)
  have HIN := Lib.hid (decide_eq_false hi : decide (Bk.In d i) = false)
  have HOUT := Lib.hid (show i < 0 ∨ (e.blocks : Int) ≤ i by have := hob.blocks; unfold Bk.In at hi; omega)
  clear hi
  clear h hoe hob hd hF hG ho hs
  rw [HV.out]
  go_enter Tryd.func65, Tryd.ntmps65
  go_upto_region 1 with fail
  refine wp_name fun W hW => ?_
  have HX := Lib.hid (show BoxAt W w.heap.size [.int .i64 (d.blocks : Int), .int .i64 (d.size : Int), .slice la xs.length lc, .slice wa ys.length wc, .bool d.lit, .int .i64 d.after, .int .i64 d.torn, .int .i64 d.cut, .slice ka d.keep.length kc, .bool d.off, .int .i64 d.count] by rw [hW]; exact BoxAt.new w [_, _, _, _, _, _, _, _, _, _, _] _)
  have HB := Lib.hid (show Below w.heap.size w W by rw [hW]; go_grown)
  clear hW
  have HDW := Lib.hid (HD.out.below HF.out HB.out)
  have HFW := Lib.hid (HF.out.more HB.out.size)
  obtain ⟨x0, x1, x2, x3, x4, x5, x6, x7, x8, x9, x10⟩ := HX.out.eleven
  go_upto_region 2 with (go_at_call 18; (refine (read_out HDW.out i HOUT.out A (HS.out.below HB.out)).mono ?_); (rintro z w1 ⟨⟨E1, rfl, he1⟩, hb⟩); (have E1 := Lib.hid he1); (clear he1); (have HB1 := Lib.hid (below_step HB.out hb)); (have HX1 := Lib.hid (HX.out.below hb)); (have HDW1 := Lib.hid (HDW.out.below HFW.out hb)); (have HFW1 := Lib.hid (HFW.out.more hb.size)); (clear hb x0 x1 x2 x3 x4 x5 x6 x7 x8 x9 x10); (obtain ⟨x0, x1, x2, x3, x4, x5, x6, x7, x8, x9, x10⟩ := HX1.out.eleven))
  go_upto_region 3 with (go_at_call 32; (refine (lasting_out HDW1.out i HOUT.out A (HS.out.below HB1.out)).mono ?_); (rintro z w2 ⟨⟨E2, rfl, he2⟩, hb⟩); (have F2 := Lib.hid he2); (have F1 := Lib.hid (E1.out.below hb)); (clear he2); (have HB2 := Lib.hid (below_step HB1.out hb)); (have HX2 := Lib.hid (HX1.out.below hb)); (have HDW2 := Lib.hid (HDW1.out.below HFW1.out hb)); (have HFW2 := Lib.hid (HFW1.out.more hb.size)); (clear hb x0 x1 x2 x3 x4 x5 x6 x7 x8 x9 x10); (obtain ⟨x0, x1, x2, x3, x4, x5, x6, x7, x8, x9, x10⟩ := HX2.out.eleven))
  go_upto_region 5 with (go_at_call 82; (refine (refIn4_as d _ _ _ _ HV.out i false HIN.out _).mono ?_); (rintro z w3 ⟨rfl, hb⟩); (have G1 := Lib.hid (F1.out.below hb)); (have G2 := Lib.hid (F2.out.below hb)); (have HB3 := Lib.hid (below_step HB2.out hb)); (have HX3 := Lib.hid (HX2.out.below hb)); (have HDW3 := Lib.hid (HDW2.out.below HFW2.out hb)); (have HFW3 := Lib.hid (HFW2.out.more hb.size)); (clear hb x0 x1 x2 x3 x4 x5 x6 x7 x8 x9 x10); (obtain ⟨x0, x1, x2, x3, x4, x5, x6, x7, x8, x9, x10⟩ := HX3.out.eleven))
  go_upto_region 6 with (go_at_call 82; (refine (refIn4_as d _ _ _ _ HV.out i false HIN.out _).mono ?_); (rintro z w4 ⟨rfl, hb⟩); (have K1 := Lib.hid (G1.out.below hb)); (have K2 := Lib.hid (G2.out.below hb)); (have HB4 := Lib.hid (below_step HB3.out hb)); (have HX4 := Lib.hid (HX3.out.below hb)); (have HDW4 := Lib.hid (HDW3.out.below HFW3.out hb)); (have HFW4 := Lib.hid (HFW3.out.more hb.size)); (clear hb x0 x1 x2 x3 x4 x5 x6 x7 x8 x9 x10); (obtain ⟨x0, x1, x2, x3, x4, x5, x6, x7, x8, x9, x10⟩ := HX4.out.eleven))
  go_wp2_with (first
    | (go_at_call 16; (refine (tells04_any (HS.out.below HB4.out) _ 2 _ K1.out 2 rfl).mono ?_); (rintro z w5 ⟨rfl, rfl⟩); (clear K1))
    | (go_at_call 16; (refine (tells04_any (HS.out.below HB4.out) _ 2 _ K2.out 2 rfl).mono ?_); (rintro z w6 ⟨rfl, rfl⟩)))
  go_ret
  exact ⟨rfl, HB4.out⟩

set_option maxRecDepth 100000 in
set_option maxHeartbeats 1000000 in
theorem same04_off {F G : Nat → Prop} {w : World} {p n m : Nat} {e d : Bk.Disk} {v : Value} (hd : DiskAt F w p e) (hoe : Bk.Ok m e) (hob : Obs e d) (hr : RefAt G w v d) (hF : Held F w) (hG : Held G w) (ho : Bk.Ok n d) (A : Nat → Addr) (hs : Sents w A) (i : Int) (hi : Bk.In d i) (hoff : d.off = true) :
    Calls Tryd.prog 65 #[.pointer (some ⟨p, 0, none⟩), v, .int .i64 i] w fun e w' => e = .returned (.bool true) ∧ Below w.heap.size w w' := by
  obtain ⟨lv, wv, kv, xs, ys, rfl, h⟩ := hr
  obtain ⟨la, lc, wa, wc, ka, kc, rfl, rfl, rfl⟩ := h.shape
  have HI := Lib.hid hi
  have hi0 : 0 ≤ i := hi.1
  have hi1 : i < (d.blocks : Int) := hi.2
  obtain ⟨l, hl⟩ : ∃ l, Bk.lastB d i.toNat = l := ⟨_, rfl⟩
  have HL := Lib.hid hl
  have hlx := (ho.lastB (i := i.toNat) (by omega)).2
  rw [hl] at hlx
  have hbk : xs.length = d.blocks := by rw [h.xlen, ho.len]
  obtain ⟨lg, lo, lc2, x, elv, hl1, hl2, hzl, lcell, lby, lG⟩ := h.lastR.cell hlx
  simp only [Value.slice.injEq, true_and] at elv
  obtain ⟨rfl, rfl⟩ := elv
  unfold maxLen at hl2
  have hi2 : i < (xs.length : Int) := by omega
  have HLB := Lib.hid lby
  have hia : lo + i.toNat = lo + i.toNat := rfl
  obtain ⟨j, rfl⟩ : ∃ j : Nat, i = (j : Int) := ⟨i.toNat, by omega⟩
  simp only [Int.toNat_natCast] at *
  have LCELL := Lib.hid lcell
  have hbl : d.blocks ≤ 256 := ho.b.2
  clear hi hl hlx hbk hzl lcell lby lG hia
  have H := Lib.hid h
  have HD := Lib.hid hd
  have HOE := Lib.hid hoe
  have HOB := Lib.hid hob
  have HF := Lib.hid hF
  have HG := Lib.hid hG
  have HO := Lib.hid ho
  have HS := Lib.hid hs
  have HV := Lib.hid (show refD d (.slice (some ⟨lg, lo, none⟩) xs.length lc) (.slice wa ys.length wc) (.slice ka d.keep.length kc) = .agg #[.int .i64 (d.blocks : Int), .int .i64 (d.size : Int), .slice (some ⟨lg, lo, none⟩) xs.length lc, .slice wa ys.length wc, .bool d.lit, .int .i64 d.after, .int .i64 d.torn, .int .i64 d.cut, .slice ka d.keep.length kc, .bool true, .int .i64 d.count] by unfold refD; first | rw [hoff] | rfl)
  have HIN := Lib.hid (decide_eq_true HI.out : decide (Bk.In d (j : Int)) = true)
  have HOFF := Lib.hid hoff
  clear hoff
  clear h hoe hob hd hF hG ho hs
  rw [HV.out]
  go_enter Tryd.func65, Tryd.ntmps65
  go_upto_region 1 with fail
  refine wp_name fun W hW => ?_
  have HX := Lib.hid (show BoxAt W w.heap.size [.int .i64 (d.blocks : Int), .int .i64 (d.size : Int), .slice (some ⟨lg, lo, none⟩) xs.length lc, .slice wa ys.length wc, .bool d.lit, .int .i64 d.after, .int .i64 d.torn, .int .i64 d.cut, .slice ka d.keep.length kc, .bool true, .int .i64 d.count] by rw [hW]; exact BoxAt.new w [_, _, _, _, _, _, _, _, _, _, _] _)
  have HB := Lib.hid (show Below w.heap.size w W by rw [hW]; go_grown)
  clear hW
  have HDW := Lib.hid (HD.out.below HF.out HB.out)
  have HFW := Lib.hid (HF.out.more HB.out.size)
  obtain ⟨x0, x1, x2, x3, x4, x5, x6, x7, x8, x9, x10⟩ := HX.out.eleven
  have HLW := Lib.hid (HLB.out.below HB.out)
  go_upto_region 2 with (go_at_call 18; (refine (read_off HDW.out (j : Int) hi0 (HOB.out.inD HI.out).2 (HOB.out.off.trans HOFF.out) A (HS.out.below HB.out)).mono ?_); (rintro z w1 ⟨⟨E1, rfl, he1⟩, hb⟩); (have E1 := Lib.hid he1); (have HLW1 := Lib.hid (HLW.out.below hb)); (clear he1); (have HB1 := Lib.hid (below_step HB.out hb)); (have HX1 := Lib.hid (HX.out.below hb)); (have HDW1 := Lib.hid (HDW.out.below HFW.out hb)); (have HFW1 := Lib.hid (HFW.out.more hb.size)); (clear hb x0 x1 x2 x3 x4 x5 x6 x7 x8 x9 x10); (obtain ⟨x0, x1, x2, x3, x4, x5, x6, x7, x8, x9, x10⟩ := HX1.out.eleven))
  go_upto_region 3 with (go_at_call 32; (refine (lasting_in HDW1.out HOE.out (j : Int) hi0 (HOB.out.inD HI.out).2 l ((HOB.out.lastB j).trans HL.out)).mono ?_); (rintro z w2 ⟨⟨g2, rfl, ho2⟩, hb⟩); (have O2 := Lib.hid ho2.bytes); (have F1 := Lib.hid (E1.out.below hb)); (have HLW2 := Lib.hid (HLW1.out.below hb)); (clear ho2); (have HB2 := Lib.hid (below_step HB1.out hb)); (have HX2 := Lib.hid (HX1.out.below hb)); (have HDW2 := Lib.hid (HDW1.out.below HFW1.out hb)); (have HFW2 := Lib.hid (HFW1.out.more hb.size)); (clear hb x0 x1 x2 x3 x4 x5 x6 x7 x8 x9 x10); (obtain ⟨x0, x1, x2, x3, x4, x5, x6, x7, x8, x9, x10⟩ := HX2.out.eleven))
  go_upto_region 4 with (go_at_call 82; (refine (refIn4_as d _ _ _ _ HV.out (j : Int) true HIN.out _).mono ?_); (rintro z w3 ⟨rfl, hb⟩); (have G1 := Lib.hid (F1.out.below hb)); (have O3 := Lib.hid (O2.out.below hb)); (have HLW3 := Lib.hid (HLW2.out.below hb)); (have HB3 := Lib.hid (below_step HB2.out hb)); (have HX3 := Lib.hid (HX2.out.below hb)); (have HDW3 := Lib.hid (HDW2.out.below HFW2.out hb)); (have HFW3 := Lib.hid (HFW2.out.more hb.size)); (clear hb x0 x1 x2 x3 x4 x5 x6 x7 x8 x9 x10); (obtain ⟨x0, x1, x2, x3, x4, x5, x6, x7, x8, x9, x10⟩ := HX3.out.eleven))
  have lc3 := (HB3.out.cell (World.block_lt_of_cell? w _ LCELL.out)).trans LCELL.out
  go_wp2_with (first
    | (go_at_call 16; (refine (tells04_any (HS.out.below HB3.out) _ 7 _ G1.out 7 rfl).mono ?_); (rintro z w5 ⟨rfl, rfl⟩))
    | (go_at_call 35; (refine (same_self _ _ l _ O3.out HLW3.out).mono ?_); (rintro z w6 ⟨rfl, hb⟩); (have HB6 := Lib.hid (below_step HB3.out hb)); (clear hb)))
  go_ret
  exact ⟨rfl, HB6.out⟩

set_option maxRecDepth 100000 in
set_option maxHeartbeats 1000000 in
theorem same04_on {F G : Nat → Prop} {w : World} {p n m : Nat} {e d : Bk.Disk} {v : Value} (hd : DiskAt F w p e) (hoe : Bk.Ok m e) (hob : Obs e d) (hr : RefAt G w v d) (hF : Held F w) (hG : Held G w) (ho : Bk.Ok n d) (A : Nat → Addr) (hs : Sents w A) (i : Int) (hi : Bk.In d i) (hoff : d.off = false) :
    Calls Tryd.prog 65 #[.pointer (some ⟨p, 0, none⟩), v, .int .i64 i] w fun e w' => e = .returned (.bool true) ∧ Below w.heap.size w w' := by
  obtain ⟨r, hr0⟩ : ∃ r, Bk.read d i.toNat = r := ⟨_, rfl⟩
  have HR := Lib.hid hr0
  clear hr0
  obtain ⟨lv, wv, kv, xs, ys, rfl, h⟩ := hr
  obtain ⟨la, lc, wa, wc, ka, kc, rfl, rfl, rfl⟩ := h.shape
  have HI := Lib.hid hi
  have hi0 : 0 ≤ i := hi.1
  have hi1 : i < (d.blocks : Int) := hi.2
  obtain ⟨l, hl⟩ : ∃ l, Bk.lastB d i.toNat = l := ⟨_, rfl⟩
  have HL := Lib.hid hl
  have hlx := (ho.lastB (i := i.toNat) (by omega)).2
  rw [hl] at hlx
  have hbk : xs.length = d.blocks := by rw [h.xlen, ho.len]
  obtain ⟨lg, lo, lc2, x, elv, hl1, hl2, hzl, lcell, lby, lG⟩ := h.lastR.cell hlx
  simp only [Value.slice.injEq, true_and] at elv
  obtain ⟨rfl, rfl⟩ := elv
  unfold maxLen at hl2
  have hi2 : i < (xs.length : Int) := by omega
  have HLB := Lib.hid lby
  have hia : lo + i.toNat = lo + i.toNat := rfl
  obtain ⟨j, rfl⟩ : ∃ j : Nat, i = (j : Int) := ⟨i.toNat, by omega⟩
  simp only [Int.toNat_natCast] at *
  have LCELL := Lib.hid lcell
  have hbl : d.blocks ≤ 256 := ho.b.2
  clear hi hl hlx hbk hzl lcell lby lG hia
  have H := Lib.hid h
  have HD := Lib.hid hd
  have HOE := Lib.hid hoe
  have HOB := Lib.hid hob
  have HF := Lib.hid hF
  have HG := Lib.hid hG
  have HO := Lib.hid ho
  have HS := Lib.hid hs
  have HV := Lib.hid (show refD d (.slice (some ⟨lg, lo, none⟩) xs.length lc) (.slice wa ys.length wc) (.slice ka d.keep.length kc) = .agg #[.int .i64 (d.blocks : Int), .int .i64 (d.size : Int), .slice (some ⟨lg, lo, none⟩) xs.length lc, .slice wa ys.length wc, .bool d.lit, .int .i64 d.after, .int .i64 d.torn, .int .i64 d.cut, .slice ka d.keep.length kc, .bool false, .int .i64 d.count] by unfold refD; first | rw [hoff] | rfl)
  have HIN := Lib.hid (decide_eq_true HI.out : decide (Bk.In d (j : Int)) = true)
  have HOFF := Lib.hid hoff
  clear hoff
  clear h hoe hob hd hF hG ho hs
  rw [HV.out]
  go_enter Tryd.func65, Tryd.ntmps65
  go_upto_region 1 with fail
  refine wp_name fun W hW => ?_
  have HX := Lib.hid (show BoxAt W w.heap.size [.int .i64 (d.blocks : Int), .int .i64 (d.size : Int), .slice (some ⟨lg, lo, none⟩) xs.length lc, .slice wa ys.length wc, .bool d.lit, .int .i64 d.after, .int .i64 d.torn, .int .i64 d.cut, .slice ka d.keep.length kc, .bool false, .int .i64 d.count] by rw [hW]; exact BoxAt.new w [_, _, _, _, _, _, _, _, _, _, _] _)
  have HB := Lib.hid (show Below w.heap.size w W by rw [hW]; go_grown)
  clear hW
  have HDW := Lib.hid (HD.out.below HF.out HB.out)
  have HFW := Lib.hid (HF.out.more HB.out.size)
  obtain ⟨x0, x1, x2, x3, x4, x5, x6, x7, x8, x9, x10⟩ := HX.out.eleven
  have HLW := Lib.hid (HLB.out.below HB.out)
  have HRD := Lib.hid (show Bk.read d (j : Int).toNat = r from HR.out)
  have HRV := Lib.hid (show RefAt G W (.agg #[.int .i64 (d.blocks : Int), .int .i64 (d.size : Int), .slice (some ⟨lg, lo, none⟩) xs.length lc, .slice wa ys.length wc, .bool d.lit, .int .i64 d.after, .int .i64 d.torn, .int .i64 d.cut, .slice ka d.keep.length kc, .bool false, .int .i64 d.count]) d by
    have := (H.out.at).below HG.out HB.out
    rwa [HV.out] at this)
  have HGW := Lib.hid (HG.out.more HB.out.size)
  go_upto_region 2 with (go_at_call 18; (refine (read_to HDW.out HOE.out (j : Int) (HOB.out.inD HI.out) (HOB.out.off.trans HOFF.out) r ((HOB.out.read j).trans HRD.out)).mono ?_); (rintro z w1 ⟨⟨g1, rfl, ho1⟩, hb⟩); (have E1 := Lib.hid ho1.bytes); (have HLW1 := Lib.hid (HLW.out.below hb)); (have HRV1 := Lib.hid (HRV.out.below HGW.out hb)); (have HGW1 := Lib.hid (HGW.out.more hb.size)); (clear ho1); (have HB1 := Lib.hid (below_step HB.out hb)); (have HX1 := Lib.hid (HX.out.below hb)); (have HDW1 := Lib.hid (HDW.out.below HFW.out hb)); (have HFW1 := Lib.hid (HFW.out.more hb.size)); (clear hb x0 x1 x2 x3 x4 x5 x6 x7 x8 x9 x10); (obtain ⟨x0, x1, x2, x3, x4, x5, x6, x7, x8, x9, x10⟩ := HX1.out.eleven))
  go_upto_region 3 with (go_at_call 32; (refine (lasting_in HDW1.out HOE.out (j : Int) hi0 (HOB.out.inD HI.out).2 l ((HOB.out.lastB j).trans HL.out)).mono ?_); (rintro z w2 ⟨⟨g2, rfl, ho2⟩, hb⟩); (have O2 := Lib.hid ho2.bytes); (have F1 := Lib.hid (E1.out.below hb)); (have HLW2 := Lib.hid (HLW1.out.below hb)); (have HRV2 := Lib.hid (HRV1.out.below HGW1.out hb)); (have HGW2 := Lib.hid (HGW1.out.more hb.size)); (clear ho2); (have HB2 := Lib.hid (below_step HB1.out hb)); (have HX2 := Lib.hid (HX1.out.below hb)); (have HDW2 := Lib.hid (HDW1.out.below HFW1.out hb)); (have HFW2 := Lib.hid (HFW1.out.more hb.size)); (clear hb x0 x1 x2 x3 x4 x5 x6 x7 x8 x9 x10); (obtain ⟨x0, x1, x2, x3, x4, x5, x6, x7, x8, x9, x10⟩ := HX2.out.eleven))
  go_upto_region 5 with (go_at_call 82; (refine (refIn4_as d _ _ _ _ HV.out (j : Int) true HIN.out _).mono ?_); (rintro z w3 ⟨rfl, hb⟩); (have G1 := Lib.hid (F1.out.below hb)); (have O3 := Lib.hid (O2.out.below hb)); (have HLW3 := Lib.hid (HLW2.out.below hb)); (have HRV3 := Lib.hid (HRV2.out.below HGW2.out hb)); (have HGW3 := Lib.hid (HGW2.out.more hb.size)); (have HB3 := Lib.hid (below_step HB2.out hb)); (have HX3 := Lib.hid (HX2.out.below hb)); (have HDW3 := Lib.hid (HDW2.out.below HFW2.out hb)); (have HFW3 := Lib.hid (HFW2.out.more hb.size)); (clear hb x0 x1 x2 x3 x4 x5 x6 x7 x8 x9 x10); (obtain ⟨x0, x1, x2, x3, x4, x5, x6, x7, x8, x9, x10⟩ := HX3.out.eleven))
  go_upto_region 7 with (go_at_call 82; (refine (refIn4_as d _ _ _ _ HV.out (j : Int) true HIN.out _).mono ?_); (rintro z w4 ⟨rfl, hb⟩); (have G4 := Lib.hid (G1.out.below hb)); (have O4 := Lib.hid (O3.out.below hb)); (have HLW4 := Lib.hid (HLW3.out.below hb)); (have HRV4 := Lib.hid (HRV3.out.below HGW3.out hb)); (have HGW4 := Lib.hid (HGW3.out.more hb.size)); (have HB4 := Lib.hid (below_step HB3.out hb)); (have HX4 := Lib.hid (HX3.out.below hb)); (have HDW4 := Lib.hid (HDW3.out.below HFW3.out hb)); (have HFW4 := Lib.hid (HFW3.out.more hb.size)); (clear hb x0 x1 x2 x3 x4 x5 x6 x7 x8 x9 x10); (obtain ⟨x0, x1, x2, x3, x4, x5, x6, x7, x8, x9, x10⟩ := HX4.out.eleven))
  have lc4 := (HB4.out.cell (World.block_lt_of_cell? w _ LCELL.out)).trans LCELL.out
  go_wp2_with (first
    | (go_at_call 83; (refine (refRead4_ok HRV4.out HO.out j (by have := HI.out; unfold Bk.In at this; omega) r HR.out).mono ?_); (rintro z w5 ⟨⟨a5, c5, rfl, hby5, hg5⟩, hb⟩); (have R5 := Lib.hid hby5); (have G5 := Lib.hid (G4.out.below hb)); (have O5 := Lib.hid (O4.out.below hb)); (have HLW5 := Lib.hid (HLW4.out.below hb)); (have lc5 := (hb.cell (World.block_lt_of_cell? _ _ lc4)).trans lc4); (clear hby5 hg5 lc4); (have HB5 := Lib.hid (below_step HB4.out hb)); (have HX5 := Lib.hid (HX4.out.below hb)); (have HDW5 := Lib.hid (HDW4.out.below HFW4.out hb)); (have HFW5 := Lib.hid (HFW4.out.more hb.size)); (clear hb x0 x1 x2 x3 x4 x5 x6 x7 x8 x9 x10); (obtain ⟨x0, x1, x2, x3, x4, x5, x6, x7, x8, x9, x10⟩ := HX5.out.eleven))
    | (go_at_call 35; (refine (same_self _ _ r _ G5.out R5.out).mono ?_); (rintro z w6 ⟨rfl, hb⟩); (have O6 := Lib.hid (O5.out.below hb)); (have HLW6 := Lib.hid (HLW5.out.below hb)); (have lc6 := (hb.cell (World.block_lt_of_cell? _ _ lc5)).trans lc5); (clear lc5 R5); (have HB6 := Lib.hid (below_step HB5.out hb)); (have HX6 := Lib.hid (HX5.out.below hb)); (have HDW6 := Lib.hid (HDW5.out.below HFW5.out hb)); (have HFW6 := Lib.hid (HFW5.out.more hb.size)); (clear hb x0 x1 x2 x3 x4 x5 x6 x7 x8 x9 x10); (obtain ⟨x0, x1, x2, x3, x4, x5, x6, x7, x8, x9, x10⟩ := HX6.out.eleven))
    | (go_at_call 35; (refine (same_self _ _ l _ O6.out HLW6.out).mono ?_); (rintro z w7 ⟨rfl, hb⟩); (have HB7 := Lib.hid (below_step HB6.out hb)); (clear hb)))
  go_ret
  exact ⟨rfl, HB7.out⟩

theorem same04_any {F G : Nat → Prop} {w : World} {p n m : Nat} {e d : Bk.Disk} {v : Value} (hd : DiskAt F w p e) (hoe : Bk.Ok m e) (hob : Obs e d) (hr : RefAt G w v d) (hF : Held F w) (hG : Held G w) (ho : Bk.Ok n d) (A : Nat → Addr) (hs : Sents w A) (i : Int) :
    Calls Tryd.prog 65 #[.pointer (some ⟨p, 0, none⟩), v, .int .i64 i] w fun e w' => e = .returned (.bool true) ∧ Below w.heap.size w w' := by
  by_cases hi : Bk.In d i
  · cases hoff : d.off with
    | true => exact same04_off hd hoe hob hr hF hG ho A hs i hi hoff
    | false => exact same04_on hd hoe hob hr hF hG ho A hs i hi hoff
  · exact same04_out hd hoe hob hr hF hG ho A hs i hi

set_option maxRecDepth 100000 in
set_option maxHeartbeats 1000000 in
theorem all04_any {F G : Nat → Prop} {w : World} {p n m : Nat} {e d : Bk.Disk} {v : Value} (hd : DiskAt F w p e) (hoe : Bk.Ok m e) (hob : Obs e d) (hr : RefAt G w v d) (hF : Held F w) (hG : Held G w) (ho : Bk.Ok n d) (A : Nat → Addr) (hs : Sents w A) :
    Calls Tryd.prog 27 #[.pointer (some ⟨p, 0, none⟩), v] w fun e w' => e = .returned (.bool true) ∧ Below w.heap.size w w' := by
  obtain ⟨lv, wv, kv, xs, ys, rfl, h⟩ := hr
  obtain ⟨la, lc, wa, wc, ka, kc, rfl, rfl, rfl⟩ := h.shape
  have H := Lib.hid h
  have HD := Lib.hid hd
  have HOE := Lib.hid hoe
  have HOB := Lib.hid hob
  have HF := Lib.hid hF
  have HG := Lib.hid hG
  have HO := Lib.hid ho
  have HS := Lib.hid hs
  have hyl : (ys.length : Int) = (e.waiting.length : Int) := by have := h.ylen; rw [hob.wait]; omega
  have HYL := Lib.hid hyl
  have hbl : d.blocks ≤ 256 := ho.b.2
  clear h hoe hob hd hF hG ho hs hyl
  unfold refD
  go_enter Tryd.func27, Tryd.ntmps27
  go_upto_region 1 with fail
  refine wp_name fun W hW => ?_
  have HX := Lib.hid (show BoxAt W w.heap.size [.int .i64 (d.blocks : Int), .int .i64 (d.size : Int), .slice la xs.length lc, .slice wa ys.length wc, .bool d.lit, .int .i64 d.after, .int .i64 d.torn, .int .i64 d.cut, .slice ka d.keep.length kc, .bool d.off, .int .i64 d.count] by rw [hW]; exact BoxAt.new w [_, _, _, _, _, _, _, _, _, _, _] _)
  have HB := Lib.hid (show Below w.heap.size w W by rw [hW]; go_grown)
  clear hW
  have HRW := Lib.hid (show RefAt G W (.agg #[.int .i64 (d.blocks : Int), .int .i64 (d.size : Int), .slice la xs.length lc, .slice wa ys.length wc, .bool d.lit, .int .i64 d.after, .int .i64 d.torn, .int .i64 d.cut, .slice ka d.keep.length kc, .bool d.off, .int .i64 d.count]) d from (H.out.at).below HG.out HB.out)
  have HGW := Lib.hid (HG.out.more HB.out.size)
  have HDW := Lib.hid (HD.out.below HF.out HB.out)
  have HFW := Lib.hid (HF.out.more HB.out.size)
  go_wp2_with fail
  go_loopw [5] (fun i wr => ∃ j : Nat, j ≤ d.blocks ∧ i = .int .i64 (j : Int) ∧ Below W.heap.size W wr) (fun i _ => d.blocks - (intOf i).toNat)
  case atStart => exact ⟨0, Nat.zero_le _, rfl, Below.refl _ _⟩
  case round =>
    obtain ⟨j, hj, rfl, hb⟩ := hrel
    have HBR := Lib.hid hb
    have HXR := Lib.hid (HX.out.below hb)
    have HRR := Lib.hid (HRW.out.below HGW.out hb)
    have HGR := Lib.hid (HGW.out.more hb.size)
    have HDR := Lib.hid (HDW.out.below HFW.out hb)
    have HFR := Lib.hid (HFW.out.more hb.size)
    have HBW := Lib.hid (below_step HB.out hb)
    clear hb
    obtain ⟨x0, x1, x2, x3, x4, x5, x6, x7, x8, x9, x10⟩ := HXR.out.eleven
    by_cases hlt : j < d.blocks
    · have hlt1 : (j : Int) < (d.blocks : Int) := by omega
      go_wp2_with (go_at_call 65; (refine (same04_any HDR.out HOE.out HOB.out HRR.out HFR.out HGR.out HO.out A (HS.out.below HBW.out) (j : Int)).mono ?_); (rintro z w3 ⟨rfl, hb3⟩); (have HB3 := Lib.hid (below_step HBR.out hb3)); (clear hb3 x0 x1 x2 x3 x4 x5 x6 x7 x8 x9 x10))
      go_roundw
      case rel => exact ⟨j + 1, by omega, by go_num, HB3.out⟩
      case measure => simp [intOf]; omega
    · have hge : (d.blocks : Int) ≤ (j : Int) := by omega
      go_upto_region 6 with fail
      have hw : ∀ x : Later wr, Calls Tryd.prog 20 #[.pointer (some ⟨p, 0, none⟩)] x.world fun e w' => e = .returned (.int .i64 (ys.length : Int)) ∧ x.world = w' := fun x => by
        have := waiting_is (HDR.out.below HFR.out x.below)
        rw [← HYL.out] at this
        exact this
      have ho : ∀ x : Later wr, Calls Tryd.prog 31 #[.pointer (some ⟨p, 0, none⟩)] x.world fun e w' => e = .returned (.bool d.off) ∧ x.world = w' := fun x => off_is (HDR.out.below HFR.out x.below) _ HOB.out.off
      have hc : ∀ x : Later wr, Calls Tryd.prog 30 #[.pointer (some ⟨p, 0, none⟩)] x.world fun e w' => e = .returned (.int .i64 d.count) ∧ x.world = w' := fun x => by
        have := count_is (HDR.out.below HFR.out x.below)
        rw [HOB.out.count] at this
        exact this
      have HW := Lib.hid hw
      have HOF := Lib.hid ho
      have HC := Lib.hid hc
      clear hw ho hc
      have q0 := Later.cell x0
      have q1 := Later.cell x1
      have q2 := Later.cell x2
      have q3 := Later.cell x3
      have q4 := Later.cell x4
      have q5 := Later.cell x5
      have q6 := Later.cell x6
      have q7 := Later.cell x7
      have q8 := Later.cell x8
      have q9 := Later.cell x9
      have q10 := Later.cell x10
      clear x0 x1 x2 x3 x4 x5 x6 x7 x8 x9 x10
      refine wp_region_later (by kernel_rfl) (by kernel_rfl) ?_
      repeat (first | go_big_quiet_step (first
        | (go_at_call 20; exact Calls.later_same (HW.out _))
        | (go_at_call 31; exact Calls.later_same (HOF.out _))
        | (go_at_call 30; exact Calls.later_same (HC.out _))) | quiet_step (fail))
      refine wpQuiet_nil ?_
      intro xw
      have HXW := Lib.hid (below_step HBW.out xw.below)
      go_wp2_with fail
      go_ret
      exact ⟨rfl, HXW.out⟩

end Go.Proofs.YtflbioiildndoaaDoor
