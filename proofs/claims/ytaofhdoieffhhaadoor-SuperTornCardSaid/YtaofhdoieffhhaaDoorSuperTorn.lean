/- superblocks: the plain law and the walk of SuperTorn -/
import Derived.Test.YtaofhdoieffhhaaDoorSuperRuns
namespace Go.Proofs.YtaofhdoieffhhaaDoor.Su
open Fld Pg

theorem seal_len {s : Sup} {at_ : Int} (h : right s = true) : (supSeal s at_).length = s.size.toNat := by
  obtain ⟨h1, _⟩ := right_iff.1 h
  exact seal_length (by simp only [pageOf, bodyL_length]; omega)
theorem open_zeros (n : Nat) : supOpen (List.replicate n 0) 1 = none := by
  unfold supOpen
  rw [if_neg]
  intro h
  have := h.2.1
  have hz : num (List.replicate n 0) 4 4 = 0 := by
    unfold num
    rw [List.drop_replicate, List.take_replicate]
    generalize min 4 (n - 4) = k
    induction k with
    | zero => rfl
    | succ k ih => rw [List.replicate_succ, unle, ih]; rfl
  have h2 : (readL (List.replicate n 0)).id = (num (List.replicate n 0) 4 4 : Nat) := rfl
  rw [h2, hz] at this
  cases this
/-- what is chosen while a younger one is written over the one that was not chosen -/
theorem torn_law {s young : Sup} {old : List UInt8} {cut : Nat} (hs : right s = true) (hy : right young = true) (hsg : s.gen < 18446744073709551616) (hyg : young.gen < 18446744073709551616) (hg : s.gen < young.gen)
    (hl : old.length = young.size.toNat) (hold : OldIs young old) :
    (chooseL (supSeal s 0) old = some (s, 0) ∧ ∃ X, (chooseL (supSeal s 0) (tornL old (supSeal young 1) cut) = some (s, X) ∧ cut < young.size.toNat) ∨ chooseL (supSeal s 0) (tornL old (supSeal young 1) cut) = some (young, X)) ∨
      (∃ o, chooseL (supSeal s 0) old = some (o, 1)) := by
  have h0 : supOpen (supSeal s 0) 0 = some s := supOpen_seal hs (by decide) hsg
  have h1 : supOpen (supSeal young 1) 1 = some young := supOpen_seal hy (by decide) hyg
  have hbl : (supSeal young 1).length = young.size.toNat := seal_len hy
  have hchoose : ∀ T, chooseL (supSeal s 0) T = match supOpen T 1 with | none => some (s, 0) | some t => if s.gen < t.gen then some (t, 1) else some (s, 0) := by
    intro T
    unfold chooseL
    rw [h0]
    cases supOpen T 1 <;> rfl
  cases ho : supOpen old 1 with
  | some o =>
    by_cases hog : s.gen < o.gen
    · exact .inr ⟨o, by rw [hchoose, ho]; simp only [hog, if_true]⟩
    · left
      refine ⟨by rw [hchoose, ho]; simp only [hog, if_false], ?_⟩
      cases ht : supOpen (tornL old (supSeal young 1) cut) 1 with
      | none =>
        refine ⟨0, .inl ⟨by rw [hchoose, ht], ?_⟩⟩
        false_or_by_contra
        rename_i hc
        have : tornL old (supSeal young 1) cut = supSeal young 1 := by
          unfold tornL
          rw [List.take_of_length_le (by omega), List.drop_of_length_le (by omega), List.append_nil]
        rw [this, h1] at ht
        cases ht
      | some t =>
        rcases torn_opens hy hyg (by omega) hl hold (by rw [ht]; simp) with e | e
        · have ht2 := ht
          rw [e, ho] at ht2
          obtain rfl : o = t := Option.some.inj ht2
          refine ⟨0, .inl ⟨by rw [hchoose, ht]; simp only [hog, if_false], ?_⟩⟩
          false_or_by_contra
          rename_i hc
          have e2 : tornL old (supSeal young 1) cut = supSeal young 1 := by
            unfold tornL
            rw [List.take_of_length_le (by omega), List.drop_of_length_le (by omega), List.append_nil]
          rw [e2, h1] at ht
          obtain rfl : young = o := Option.some.inj ht
          exact hog hg
        · rw [e, h1] at ht
          obtain rfl : young = t := Option.some.inj ht
          exact ⟨1, .inr (by rw [hchoose, e, h1]; simp only [hg, if_true])⟩
  | none =>
    left
    refine ⟨by rw [hchoose, ho], ?_⟩
    cases ht : supOpen (tornL old (supSeal young 1) cut) 1 with
    | none =>
      refine ⟨0, .inl ⟨by rw [hchoose, ht], ?_⟩⟩
      false_or_by_contra
      rename_i hc
      have : tornL old (supSeal young 1) cut = supSeal young 1 := by
        unfold tornL
        rw [List.take_of_length_le (by omega), List.drop_of_length_le (by omega), List.append_nil]
      rw [this, h1] at ht
      cases ht
    | some t =>
      rcases torn_opens hy hyg (by omega) hl hold (by rw [ht]; simp) with e | e
      · rw [e, ho] at ht
        cases ht
      · rw [e, h1] at ht
        obtain rfl : young = t := Option.some.inj ht
        exact ⟨1, .inr (by rw [hchoose, e, h1]; simp only [hg, if_true])⟩
end Go.Proofs.YtaofhdoieffhhaaDoor.Su
namespace Go.Proofs.YtaofhdoieffhhaaDoor
open Go.RowKit
set_option linter.unusedVariables false
set_option linter.unusedSimpArgs false

theorem rights_any (s : Su.Sup) (w : World) (h1 h2 : Bool) (hh : Su.right s = h1) : Calls Tryd.prog 25 #[.agg #[.int .u64 (s.gen : Int), .int .i64 s.blocks, .int .i64 s.size, .int .i64 s.root, .int .i64 s.keys]] w fun e w' => e = .returned (.bool h1) ∧ Below w.heap.size w w' := by
  subst hh; exact refSupRight_any s w
theorem choose_of (l m : List UInt8) (s : Su.Sup) (X : Int) (h : Su.chooseL l m = some (s, X)) : chooseT l m = (s, X, 0) := by
  unfold chooseT; rw [h]

set_option maxRecDepth 100000 in
set_option maxHeartbeats 8000000 in
theorem superTorn_walk (s o y : Su.Sup) (bare : Bool) (cut : Int) (w : World) (A : Nat → Addr) {S : Nat → Prop} [Has S 1] [Has S 2] [Has S 5] (hs : SentsOn S w A) (hsg : s.gen < 18446744073709551616) (hog : o.gen < 18446744073709551616) (hyg : y.gen < 18446744073709551616) :
    Calls Tryd.prog 7 #[.agg #[.int .u64 (s.gen : Int), .int .i64 s.blocks, .int .i64 s.size, .int .i64 s.root, .int .i64 s.keys, .int .u64 (o.gen : Int), .int .i64 o.blocks, .int .i64 o.size, .int .i64 o.root, .int .i64 o.keys, .int .u64 (y.gen : Int), .int .i64 y.blocks, .int .i64 y.size, .int .i64 y.root, .int .i64 y.keys, .bool bare, .int .i64 cut]] w fun e w' => e = .returned (.bool true) ∧ Below w.heap.size w w' := by
  have HS := Lib.hid hs
  clear hs
  have hways : (Su.right s = false) ∨ (Su.right s = true ∧ Su.right y = false) ∨ (Su.right s = true ∧ Su.right y = true ∧ Su.right o = false) ∨
      (Su.right s = true ∧ Su.right y = true ∧ Su.right o = true ∧ ((s.blocks ≠ y.blocks) ∨ (s.blocks = y.blocks ∧ s.size ≠ y.size) ∨ (s.blocks = y.blocks ∧ s.size = y.size ∧ s.blocks ≠ o.blocks) ∨ (s.blocks = y.blocks ∧ s.size = y.size ∧ s.blocks = o.blocks ∧ s.size ≠ o.size) ∨
        (s.blocks = y.blocks ∧ s.size = y.size ∧ s.blocks = o.blocks ∧ s.size = o.size ∧ ((y.gen : Int) ≤ (s.gen : Int) ∨ ((s.gen : Int) < (y.gen : Int) ∧ (y.gen : Int) ≤ (o.gen : Int)) ∨ ((s.gen : Int) < (y.gen : Int) ∧ (o.gen : Int) < (y.gen : Int)))))) := by
    cases Su.right s <;> cases Su.right y <;> cases Su.right o <;> simp
    omega
  go_enter Tryd.func7, Tryd.ntmps7
  go_upto_region 4 with fail
  refine wp_name fun W hW => ?_
  have HXA := Lib.hid (show BoxAt W w.heap.size [.int .u64 (s.gen : Int), .int .i64 s.blocks, .int .i64 s.size, .int .i64 s.root, .int .i64 s.keys, .int .u64 (o.gen : Int), .int .i64 o.blocks, .int .i64 o.size, .int .i64 o.root, .int .i64 o.keys, .int .u64 (y.gen : Int), .int .i64 y.blocks, .int .i64 y.size, .int .i64 y.root, .int .i64 y.keys, .bool bare, .int .i64 cut] by rw [hW]; exact ((BoxAt.new w [_, _, _, _, _, _, _, _, _, _, _, _, _, _, _, _, _] _).alloc _).alloc _)
  have HXS := Lib.hid (show BoxAt W (w.heap.size + 1) [.int .u64 (s.gen : Int), .int .i64 s.blocks, .int .i64 s.size, .int .i64 s.root, .int .i64 s.keys] by rw [hW]; exact (BoxAt.newAt (w.alloc _) _ (by simp) [_, _, _, _, _] _).alloc _)
  have HXY := Lib.hid (show BoxAt W (w.heap.size + 1 + 1) [.int .u64 (y.gen : Int), .int .i64 y.blocks, .int .i64 y.size, .int .i64 y.root, .int .i64 y.keys] by rw [hW]; exact BoxAt.newAt ((w.alloc _).alloc _) _ (by simp) [_, _, _, _, _] _)
  have HBW := Lib.hid (show Below w.heap.size w W by rw [hW]; go_grown)
  clear hW
  have hsW := HXY.out.lt
  have HOLD := Lib.hid (show True from trivial)
  rcases hways with hr1 | ⟨hr1, hr2⟩ | ⟨hr1, hr2, hr3⟩ | ⟨hr1, hr2, hr3, hw⟩
  · have HR1 := Lib.hid hr1
    clear hr1
    have XA0 := HXA
    have XS0 := HXS
    have XY0 := HXY
    have HB0 := HBW
    obtain ⟨s0, s1, s2, s3, s4⟩ := HXS.out.five
    obtain ⟨y0, y1, y2, y3, y4⟩ := HXY.out.five
    have o0 := HXA.out.at 5 _ rfl
    have o1 := HXA.out.at 6 _ rfl
    have o2 := HXA.out.at 7 _ rfl
    have o3 := HXA.out.at 8 _ rfl
    have o4 := HXA.out.at 9 _ rfl
    have x15 := HXA.out.at 15 _ rfl
    go_wp2_with fail
    refine (rights_any s _ false false HR1.out).mono ?_
    rintro e w1 ⟨rfl, hb1⟩
    have XA1 := Lib.hid (XA0.out.below hb1)
    have XS1 := Lib.hid (XS0.out.below hb1)
    have XY1 := Lib.hid (XY0.out.below hb1)
    have HB1 := Lib.hid (below_step HB0.out hb1)
    clear s0 s1 s2 s3 s4 y0 y1 y2 y3 y4 o0 o1 o2 o3 o4 x15 hb1
    obtain ⟨s0, s1, s2, s3, s4⟩ := XS1.out.five
    obtain ⟨y0, y1, y2, y3, y4⟩ := XY1.out.five
    have o0 := XA1.out.at 5 _ rfl
    have o1 := XA1.out.at 6 _ rfl
    have o2 := XA1.out.at 7 _ rfl
    have o3 := XA1.out.at 8 _ rfl
    have o4 := XA1.out.at 9 _ rfl
    have x15 := XA1.out.at 15 _ rfl
    go_wp2_with (go_at_call 26; (refine (superAwake_any _ A (HS.out.below HB1.out)).mono ?_); (rintro e w8 ⟨rfl, hb8⟩); (have HB8 := Lib.hid (below_step HB1.out hb8)); (clear hb8))
    go_ret
    exact ⟨rfl, HB8.out⟩
  · have HR1 := Lib.hid hr1
    have HR2 := Lib.hid hr2
    clear hr1 hr2
    have XA0 := HXA
    have XS0 := HXS
    have XY0 := HXY
    have HB0 := HBW
    obtain ⟨s0, s1, s2, s3, s4⟩ := HXS.out.five
    obtain ⟨y0, y1, y2, y3, y4⟩ := HXY.out.five
    have o0 := HXA.out.at 5 _ rfl
    have o1 := HXA.out.at 6 _ rfl
    have o2 := HXA.out.at 7 _ rfl
    have o3 := HXA.out.at 8 _ rfl
    have o4 := HXA.out.at 9 _ rfl
    have x15 := HXA.out.at 15 _ rfl
    go_wp2_with fail
    refine (rights_any s _ true true HR1.out).mono ?_
    rintro e w1 ⟨rfl, hb1⟩
    have XA1 := Lib.hid (XA0.out.below hb1)
    have XS1 := Lib.hid (XS0.out.below hb1)
    have XY1 := Lib.hid (XY0.out.below hb1)
    have HB1 := Lib.hid (below_step HB0.out hb1)
    clear s0 s1 s2 s3 s4 y0 y1 y2 y3 y4 o0 o1 o2 o3 o4 x15 hb1
    obtain ⟨s0, s1, s2, s3, s4⟩ := XS1.out.five
    obtain ⟨y0, y1, y2, y3, y4⟩ := XY1.out.five
    have o0 := XA1.out.at 5 _ rfl
    have o1 := XA1.out.at 6 _ rfl
    have o2 := XA1.out.at 7 _ rfl
    have o3 := XA1.out.at 8 _ rfl
    have o4 := XA1.out.at 9 _ rfl
    have x15 := XA1.out.at 15 _ rfl
    go_wp2_with fail
    refine (rights_any y _ false false HR2.out).mono ?_
    rintro e w2 ⟨rfl, hb2⟩
    have XA2 := Lib.hid (XA1.out.below hb2)
    have XS2 := Lib.hid (XS1.out.below hb2)
    have XY2 := Lib.hid (XY1.out.below hb2)
    have HB2 := Lib.hid (below_step HB1.out hb2)
    clear s0 s1 s2 s3 s4 y0 y1 y2 y3 y4 o0 o1 o2 o3 o4 x15 hb2
    obtain ⟨s0, s1, s2, s3, s4⟩ := XS2.out.five
    obtain ⟨y0, y1, y2, y3, y4⟩ := XY2.out.five
    have o0 := XA2.out.at 5 _ rfl
    have o1 := XA2.out.at 6 _ rfl
    have o2 := XA2.out.at 7 _ rfl
    have o3 := XA2.out.at 8 _ rfl
    have o4 := XA2.out.at 9 _ rfl
    have x15 := XA2.out.at 15 _ rfl
    go_wp2_with (go_at_call 26; (refine (superAwake_any _ A (HS.out.below HB2.out)).mono ?_); (rintro e w8 ⟨rfl, hb8⟩); (have HB8 := Lib.hid (below_step HB2.out hb8)); (clear hb8))
    go_ret
    exact ⟨rfl, HB8.out⟩
  · have HR1 := Lib.hid hr1
    have HR2 := Lib.hid hr2
    have HR3 := Lib.hid hr3
    clear hr1 hr2 hr3
    have XA0 := HXA
    have XS0 := HXS
    have XY0 := HXY
    have HB0 := HBW
    obtain ⟨s0, s1, s2, s3, s4⟩ := HXS.out.five
    obtain ⟨y0, y1, y2, y3, y4⟩ := HXY.out.five
    have o0 := HXA.out.at 5 _ rfl
    have o1 := HXA.out.at 6 _ rfl
    have o2 := HXA.out.at 7 _ rfl
    have o3 := HXA.out.at 8 _ rfl
    have o4 := HXA.out.at 9 _ rfl
    have x15 := HXA.out.at 15 _ rfl
    go_wp2_with fail
    refine (rights_any s _ true true HR1.out).mono ?_
    rintro e w1 ⟨rfl, hb1⟩
    have XA1 := Lib.hid (XA0.out.below hb1)
    have XS1 := Lib.hid (XS0.out.below hb1)
    have XY1 := Lib.hid (XY0.out.below hb1)
    have HB1 := Lib.hid (below_step HB0.out hb1)
    clear s0 s1 s2 s3 s4 y0 y1 y2 y3 y4 o0 o1 o2 o3 o4 x15 hb1
    obtain ⟨s0, s1, s2, s3, s4⟩ := XS1.out.five
    obtain ⟨y0, y1, y2, y3, y4⟩ := XY1.out.five
    have o0 := XA1.out.at 5 _ rfl
    have o1 := XA1.out.at 6 _ rfl
    have o2 := XA1.out.at 7 _ rfl
    have o3 := XA1.out.at 8 _ rfl
    have o4 := XA1.out.at 9 _ rfl
    have x15 := XA1.out.at 15 _ rfl
    go_wp2_with fail
    refine (rights_any y _ true true HR2.out).mono ?_
    rintro e w2 ⟨rfl, hb2⟩
    have XA2 := Lib.hid (XA1.out.below hb2)
    have XS2 := Lib.hid (XS1.out.below hb2)
    have XY2 := Lib.hid (XY1.out.below hb2)
    have HB2 := Lib.hid (below_step HB1.out hb2)
    clear s0 s1 s2 s3 s4 y0 y1 y2 y3 y4 o0 o1 o2 o3 o4 x15 hb2
    obtain ⟨s0, s1, s2, s3, s4⟩ := XS2.out.five
    obtain ⟨y0, y1, y2, y3, y4⟩ := XY2.out.five
    have o0 := XA2.out.at 5 _ rfl
    have o1 := XA2.out.at 6 _ rfl
    have o2 := XA2.out.at 7 _ rfl
    have o3 := XA2.out.at 8 _ rfl
    have o4 := XA2.out.at 9 _ rfl
    have x15 := XA2.out.at 15 _ rfl
    go_wp2_with fail
    refine (rights_any o _ false false HR3.out).mono ?_
    rintro e w3 ⟨rfl, hb3⟩
    have XA3 := Lib.hid (XA2.out.below hb3)
    have XS3 := Lib.hid (XS2.out.below hb3)
    have XY3 := Lib.hid (XY2.out.below hb3)
    have HB3 := Lib.hid (below_step HB2.out hb3)
    clear s0 s1 s2 s3 s4 y0 y1 y2 y3 y4 o0 o1 o2 o3 o4 x15 hb3
    obtain ⟨s0, s1, s2, s3, s4⟩ := XS3.out.five
    obtain ⟨y0, y1, y2, y3, y4⟩ := XY3.out.five
    have o0 := XA3.out.at 5 _ rfl
    have o1 := XA3.out.at 6 _ rfl
    have o2 := XA3.out.at 7 _ rfl
    have o3 := XA3.out.at 8 _ rfl
    have o4 := XA3.out.at 9 _ rfl
    have x15 := XA3.out.at 15 _ rfl
    go_wp2_with (go_at_call 26; (refine (superAwake_any _ A (HS.out.below HB3.out)).mono ?_); (rintro e w8 ⟨rfl, hb8⟩); (have HB8 := Lib.hid (below_step HB3.out hb8)); (clear hb8))
    go_ret
    exact ⟨rfl, HB8.out⟩
  · have HR1 := Lib.hid hr1
    have HR2 := Lib.hid hr2
    have HR3 := Lib.hid hr3
    clear hr1 hr3
    rcases hw with hw | ⟨h1, hw⟩ | ⟨h1, h2, hw⟩ | ⟨h1, h2, h3, hw⟩ | ⟨h1, h2, h3, h4, hw⟩
    · have q_sblocks_yblocks : (s.blocks == y.blocks) = false := by simp; omega
      clear hw
      have XA0 := HXA
      have XS0 := HXS
      have XY0 := HXY
      have HB0 := HBW
      obtain ⟨s0, s1, s2, s3, s4⟩ := HXS.out.five
      obtain ⟨y0, y1, y2, y3, y4⟩ := HXY.out.five
      have o0 := HXA.out.at 5 _ rfl
      have o1 := HXA.out.at 6 _ rfl
      have o2 := HXA.out.at 7 _ rfl
      have o3 := HXA.out.at 8 _ rfl
      have o4 := HXA.out.at 9 _ rfl
      have x15 := HXA.out.at 15 _ rfl
      go_wp2_with fail
      refine (rights_any s _ true true HR1.out).mono ?_
      rintro e w1 ⟨rfl, hb1⟩
      have XA1 := Lib.hid (XA0.out.below hb1)
      have XS1 := Lib.hid (XS0.out.below hb1)
      have XY1 := Lib.hid (XY0.out.below hb1)
      have HB1 := Lib.hid (below_step HB0.out hb1)
      clear s0 s1 s2 s3 s4 y0 y1 y2 y3 y4 o0 o1 o2 o3 o4 x15 hb1
      obtain ⟨s0, s1, s2, s3, s4⟩ := XS1.out.five
      obtain ⟨y0, y1, y2, y3, y4⟩ := XY1.out.five
      have o0 := XA1.out.at 5 _ rfl
      have o1 := XA1.out.at 6 _ rfl
      have o2 := XA1.out.at 7 _ rfl
      have o3 := XA1.out.at 8 _ rfl
      have o4 := XA1.out.at 9 _ rfl
      have x15 := XA1.out.at 15 _ rfl
      go_wp2_with fail
      refine (rights_any y _ true true HR2.out).mono ?_
      rintro e w2 ⟨rfl, hb2⟩
      have XA2 := Lib.hid (XA1.out.below hb2)
      have XS2 := Lib.hid (XS1.out.below hb2)
      have XY2 := Lib.hid (XY1.out.below hb2)
      have HB2 := Lib.hid (below_step HB1.out hb2)
      clear s0 s1 s2 s3 s4 y0 y1 y2 y3 y4 o0 o1 o2 o3 o4 x15 hb2
      obtain ⟨s0, s1, s2, s3, s4⟩ := XS2.out.five
      obtain ⟨y0, y1, y2, y3, y4⟩ := XY2.out.five
      have o0 := XA2.out.at 5 _ rfl
      have o1 := XA2.out.at 6 _ rfl
      have o2 := XA2.out.at 7 _ rfl
      have o3 := XA2.out.at 8 _ rfl
      have o4 := XA2.out.at 9 _ rfl
      have x15 := XA2.out.at 15 _ rfl
      go_wp2_with fail
      refine (rights_any o _ true true HR3.out).mono ?_
      rintro e w3 ⟨rfl, hb3⟩
      have XA3 := Lib.hid (XA2.out.below hb3)
      have XS3 := Lib.hid (XS2.out.below hb3)
      have XY3 := Lib.hid (XY2.out.below hb3)
      have HB3 := Lib.hid (below_step HB2.out hb3)
      clear s0 s1 s2 s3 s4 y0 y1 y2 y3 y4 o0 o1 o2 o3 o4 x15 hb3
      obtain ⟨s0, s1, s2, s3, s4⟩ := XS3.out.five
      obtain ⟨y0, y1, y2, y3, y4⟩ := XY3.out.five
      have o0 := XA3.out.at 5 _ rfl
      have o1 := XA3.out.at 6 _ rfl
      have o2 := XA3.out.at 7 _ rfl
      have o3 := XA3.out.at 8 _ rfl
      have o4 := XA3.out.at 9 _ rfl
      have x15 := XA3.out.at 15 _ rfl
      go_wp2_with (go_at_call 26; (refine (superAwake_any _ A (HS.out.below HB3.out)).mono ?_); (rintro e w8 ⟨rfl, hb8⟩); (have HB8 := Lib.hid (below_step HB3.out hb8)); (clear hb8))
      go_ret
      exact ⟨rfl, HB8.out⟩
    · have q_sblocks_yblocks : (s.blocks == y.blocks) = true := by simp; omega
      have q_ssize_ysize : (s.size == y.size) = false := by simp; omega
      clear h1 hw
      have XA0 := HXA
      have XS0 := HXS
      have XY0 := HXY
      have HB0 := HBW
      obtain ⟨s0, s1, s2, s3, s4⟩ := HXS.out.five
      obtain ⟨y0, y1, y2, y3, y4⟩ := HXY.out.five
      have o0 := HXA.out.at 5 _ rfl
      have o1 := HXA.out.at 6 _ rfl
      have o2 := HXA.out.at 7 _ rfl
      have o3 := HXA.out.at 8 _ rfl
      have o4 := HXA.out.at 9 _ rfl
      have x15 := HXA.out.at 15 _ rfl
      go_wp2_with fail
      refine (rights_any s _ true true HR1.out).mono ?_
      rintro e w1 ⟨rfl, hb1⟩
      have XA1 := Lib.hid (XA0.out.below hb1)
      have XS1 := Lib.hid (XS0.out.below hb1)
      have XY1 := Lib.hid (XY0.out.below hb1)
      have HB1 := Lib.hid (below_step HB0.out hb1)
      clear s0 s1 s2 s3 s4 y0 y1 y2 y3 y4 o0 o1 o2 o3 o4 x15 hb1
      obtain ⟨s0, s1, s2, s3, s4⟩ := XS1.out.five
      obtain ⟨y0, y1, y2, y3, y4⟩ := XY1.out.five
      have o0 := XA1.out.at 5 _ rfl
      have o1 := XA1.out.at 6 _ rfl
      have o2 := XA1.out.at 7 _ rfl
      have o3 := XA1.out.at 8 _ rfl
      have o4 := XA1.out.at 9 _ rfl
      have x15 := XA1.out.at 15 _ rfl
      go_wp2_with fail
      refine (rights_any y _ true true HR2.out).mono ?_
      rintro e w2 ⟨rfl, hb2⟩
      have XA2 := Lib.hid (XA1.out.below hb2)
      have XS2 := Lib.hid (XS1.out.below hb2)
      have XY2 := Lib.hid (XY1.out.below hb2)
      have HB2 := Lib.hid (below_step HB1.out hb2)
      clear s0 s1 s2 s3 s4 y0 y1 y2 y3 y4 o0 o1 o2 o3 o4 x15 hb2
      obtain ⟨s0, s1, s2, s3, s4⟩ := XS2.out.five
      obtain ⟨y0, y1, y2, y3, y4⟩ := XY2.out.five
      have o0 := XA2.out.at 5 _ rfl
      have o1 := XA2.out.at 6 _ rfl
      have o2 := XA2.out.at 7 _ rfl
      have o3 := XA2.out.at 8 _ rfl
      have o4 := XA2.out.at 9 _ rfl
      have x15 := XA2.out.at 15 _ rfl
      go_wp2_with fail
      refine (rights_any o _ true true HR3.out).mono ?_
      rintro e w3 ⟨rfl, hb3⟩
      have XA3 := Lib.hid (XA2.out.below hb3)
      have XS3 := Lib.hid (XS2.out.below hb3)
      have XY3 := Lib.hid (XY2.out.below hb3)
      have HB3 := Lib.hid (below_step HB2.out hb3)
      clear s0 s1 s2 s3 s4 y0 y1 y2 y3 y4 o0 o1 o2 o3 o4 x15 hb3
      obtain ⟨s0, s1, s2, s3, s4⟩ := XS3.out.five
      obtain ⟨y0, y1, y2, y3, y4⟩ := XY3.out.five
      have o0 := XA3.out.at 5 _ rfl
      have o1 := XA3.out.at 6 _ rfl
      have o2 := XA3.out.at 7 _ rfl
      have o3 := XA3.out.at 8 _ rfl
      have o4 := XA3.out.at 9 _ rfl
      have x15 := XA3.out.at 15 _ rfl
      go_wp2_with (go_at_call 26; (refine (superAwake_any _ A (HS.out.below HB3.out)).mono ?_); (rintro e w8 ⟨rfl, hb8⟩); (have HB8 := Lib.hid (below_step HB3.out hb8)); (clear hb8))
      go_ret
      exact ⟨rfl, HB8.out⟩
    · have q_sblocks_yblocks : (s.blocks == y.blocks) = true := by simp; omega
      have q_ssize_ysize : (s.size == y.size) = true := by simp; omega
      have q_sblocks_oblocks : (s.blocks == o.blocks) = false := by simp; omega
      clear h1 h2 hw
      have XA0 := HXA
      have XS0 := HXS
      have XY0 := HXY
      have HB0 := HBW
      obtain ⟨s0, s1, s2, s3, s4⟩ := HXS.out.five
      obtain ⟨y0, y1, y2, y3, y4⟩ := HXY.out.five
      have o0 := HXA.out.at 5 _ rfl
      have o1 := HXA.out.at 6 _ rfl
      have o2 := HXA.out.at 7 _ rfl
      have o3 := HXA.out.at 8 _ rfl
      have o4 := HXA.out.at 9 _ rfl
      have x15 := HXA.out.at 15 _ rfl
      go_wp2_with fail
      refine (rights_any s _ true true HR1.out).mono ?_
      rintro e w1 ⟨rfl, hb1⟩
      have XA1 := Lib.hid (XA0.out.below hb1)
      have XS1 := Lib.hid (XS0.out.below hb1)
      have XY1 := Lib.hid (XY0.out.below hb1)
      have HB1 := Lib.hid (below_step HB0.out hb1)
      clear s0 s1 s2 s3 s4 y0 y1 y2 y3 y4 o0 o1 o2 o3 o4 x15 hb1
      obtain ⟨s0, s1, s2, s3, s4⟩ := XS1.out.five
      obtain ⟨y0, y1, y2, y3, y4⟩ := XY1.out.five
      have o0 := XA1.out.at 5 _ rfl
      have o1 := XA1.out.at 6 _ rfl
      have o2 := XA1.out.at 7 _ rfl
      have o3 := XA1.out.at 8 _ rfl
      have o4 := XA1.out.at 9 _ rfl
      have x15 := XA1.out.at 15 _ rfl
      go_wp2_with fail
      refine (rights_any y _ true true HR2.out).mono ?_
      rintro e w2 ⟨rfl, hb2⟩
      have XA2 := Lib.hid (XA1.out.below hb2)
      have XS2 := Lib.hid (XS1.out.below hb2)
      have XY2 := Lib.hid (XY1.out.below hb2)
      have HB2 := Lib.hid (below_step HB1.out hb2)
      clear s0 s1 s2 s3 s4 y0 y1 y2 y3 y4 o0 o1 o2 o3 o4 x15 hb2
      obtain ⟨s0, s1, s2, s3, s4⟩ := XS2.out.five
      obtain ⟨y0, y1, y2, y3, y4⟩ := XY2.out.five
      have o0 := XA2.out.at 5 _ rfl
      have o1 := XA2.out.at 6 _ rfl
      have o2 := XA2.out.at 7 _ rfl
      have o3 := XA2.out.at 8 _ rfl
      have o4 := XA2.out.at 9 _ rfl
      have x15 := XA2.out.at 15 _ rfl
      go_wp2_with fail
      refine (rights_any o _ true true HR3.out).mono ?_
      rintro e w3 ⟨rfl, hb3⟩
      have XA3 := Lib.hid (XA2.out.below hb3)
      have XS3 := Lib.hid (XS2.out.below hb3)
      have XY3 := Lib.hid (XY2.out.below hb3)
      have HB3 := Lib.hid (below_step HB2.out hb3)
      clear s0 s1 s2 s3 s4 y0 y1 y2 y3 y4 o0 o1 o2 o3 o4 x15 hb3
      obtain ⟨s0, s1, s2, s3, s4⟩ := XS3.out.five
      obtain ⟨y0, y1, y2, y3, y4⟩ := XY3.out.five
      have o0 := XA3.out.at 5 _ rfl
      have o1 := XA3.out.at 6 _ rfl
      have o2 := XA3.out.at 7 _ rfl
      have o3 := XA3.out.at 8 _ rfl
      have o4 := XA3.out.at 9 _ rfl
      have x15 := XA3.out.at 15 _ rfl
      go_wp2_with (go_at_call 26; (refine (superAwake_any _ A (HS.out.below HB3.out)).mono ?_); (rintro e w8 ⟨rfl, hb8⟩); (have HB8 := Lib.hid (below_step HB3.out hb8)); (clear hb8))
      go_ret
      exact ⟨rfl, HB8.out⟩
    · have q_sblocks_yblocks : (s.blocks == y.blocks) = true := by simp; omega
      have q_ssize_ysize : (s.size == y.size) = true := by simp; omega
      have q_sblocks_oblocks : (s.blocks == o.blocks) = true := by simp; omega
      have q_ssize_osize : (s.size == o.size) = false := by simp; omega
      clear h1 h2 h3 hw
      have XA0 := HXA
      have XS0 := HXS
      have XY0 := HXY
      have HB0 := HBW
      obtain ⟨s0, s1, s2, s3, s4⟩ := HXS.out.five
      obtain ⟨y0, y1, y2, y3, y4⟩ := HXY.out.five
      have o0 := HXA.out.at 5 _ rfl
      have o1 := HXA.out.at 6 _ rfl
      have o2 := HXA.out.at 7 _ rfl
      have o3 := HXA.out.at 8 _ rfl
      have o4 := HXA.out.at 9 _ rfl
      have x15 := HXA.out.at 15 _ rfl
      go_wp2_with fail
      refine (rights_any s _ true true HR1.out).mono ?_
      rintro e w1 ⟨rfl, hb1⟩
      have XA1 := Lib.hid (XA0.out.below hb1)
      have XS1 := Lib.hid (XS0.out.below hb1)
      have XY1 := Lib.hid (XY0.out.below hb1)
      have HB1 := Lib.hid (below_step HB0.out hb1)
      clear s0 s1 s2 s3 s4 y0 y1 y2 y3 y4 o0 o1 o2 o3 o4 x15 hb1
      obtain ⟨s0, s1, s2, s3, s4⟩ := XS1.out.five
      obtain ⟨y0, y1, y2, y3, y4⟩ := XY1.out.five
      have o0 := XA1.out.at 5 _ rfl
      have o1 := XA1.out.at 6 _ rfl
      have o2 := XA1.out.at 7 _ rfl
      have o3 := XA1.out.at 8 _ rfl
      have o4 := XA1.out.at 9 _ rfl
      have x15 := XA1.out.at 15 _ rfl
      go_wp2_with fail
      refine (rights_any y _ true true HR2.out).mono ?_
      rintro e w2 ⟨rfl, hb2⟩
      have XA2 := Lib.hid (XA1.out.below hb2)
      have XS2 := Lib.hid (XS1.out.below hb2)
      have XY2 := Lib.hid (XY1.out.below hb2)
      have HB2 := Lib.hid (below_step HB1.out hb2)
      clear s0 s1 s2 s3 s4 y0 y1 y2 y3 y4 o0 o1 o2 o3 o4 x15 hb2
      obtain ⟨s0, s1, s2, s3, s4⟩ := XS2.out.five
      obtain ⟨y0, y1, y2, y3, y4⟩ := XY2.out.five
      have o0 := XA2.out.at 5 _ rfl
      have o1 := XA2.out.at 6 _ rfl
      have o2 := XA2.out.at 7 _ rfl
      have o3 := XA2.out.at 8 _ rfl
      have o4 := XA2.out.at 9 _ rfl
      have x15 := XA2.out.at 15 _ rfl
      go_wp2_with fail
      refine (rights_any o _ true true HR3.out).mono ?_
      rintro e w3 ⟨rfl, hb3⟩
      have XA3 := Lib.hid (XA2.out.below hb3)
      have XS3 := Lib.hid (XS2.out.below hb3)
      have XY3 := Lib.hid (XY2.out.below hb3)
      have HB3 := Lib.hid (below_step HB2.out hb3)
      clear s0 s1 s2 s3 s4 y0 y1 y2 y3 y4 o0 o1 o2 o3 o4 x15 hb3
      obtain ⟨s0, s1, s2, s3, s4⟩ := XS3.out.five
      obtain ⟨y0, y1, y2, y3, y4⟩ := XY3.out.five
      have o0 := XA3.out.at 5 _ rfl
      have o1 := XA3.out.at 6 _ rfl
      have o2 := XA3.out.at 7 _ rfl
      have o3 := XA3.out.at 8 _ rfl
      have o4 := XA3.out.at 9 _ rfl
      have x15 := XA3.out.at 15 _ rfl
      go_wp2_with (go_at_call 26; (refine (superAwake_any _ A (HS.out.below HB3.out)).mono ?_); (rintro e w8 ⟨rfl, hb8⟩); (have HB8 := Lib.hid (below_step HB3.out hb8)); (clear hb8))
      go_ret
      exact ⟨rfl, HB8.out⟩
    · rcases hw with hw | ⟨hw, hw2⟩ | ⟨hw, hw2⟩
      · have q_sblocks_yblocks : (s.blocks == y.blocks) = true := by simp; omega
        have q_ssize_ysize : (s.size == y.size) = true := by simp; omega
        have q_sblocks_oblocks : (s.blocks == o.blocks) = true := by simp; omega
        have q_ssize_osize : (s.size == o.size) = true := by simp; omega
        clear h1 h2 h3 h4
        have XA0 := HXA
        have XS0 := HXS
        have XY0 := HXY
        have HB0 := HBW
        obtain ⟨s0, s1, s2, s3, s4⟩ := HXS.out.five
        obtain ⟨y0, y1, y2, y3, y4⟩ := HXY.out.five
        have o0 := HXA.out.at 5 _ rfl
        have o1 := HXA.out.at 6 _ rfl
        have o2 := HXA.out.at 7 _ rfl
        have o3 := HXA.out.at 8 _ rfl
        have o4 := HXA.out.at 9 _ rfl
        have x15 := HXA.out.at 15 _ rfl
        go_wp2_with fail
        refine (rights_any s _ true true HR1.out).mono ?_
        rintro e w1 ⟨rfl, hb1⟩
        have XA1 := Lib.hid (XA0.out.below hb1)
        have XS1 := Lib.hid (XS0.out.below hb1)
        have XY1 := Lib.hid (XY0.out.below hb1)
        have HB1 := Lib.hid (below_step HB0.out hb1)
        clear s0 s1 s2 s3 s4 y0 y1 y2 y3 y4 o0 o1 o2 o3 o4 x15 hb1
        obtain ⟨s0, s1, s2, s3, s4⟩ := XS1.out.five
        obtain ⟨y0, y1, y2, y3, y4⟩ := XY1.out.five
        have o0 := XA1.out.at 5 _ rfl
        have o1 := XA1.out.at 6 _ rfl
        have o2 := XA1.out.at 7 _ rfl
        have o3 := XA1.out.at 8 _ rfl
        have o4 := XA1.out.at 9 _ rfl
        have x15 := XA1.out.at 15 _ rfl
        go_wp2_with fail
        refine (rights_any y _ true true HR2.out).mono ?_
        rintro e w2 ⟨rfl, hb2⟩
        have XA2 := Lib.hid (XA1.out.below hb2)
        have XS2 := Lib.hid (XS1.out.below hb2)
        have XY2 := Lib.hid (XY1.out.below hb2)
        have HB2 := Lib.hid (below_step HB1.out hb2)
        clear s0 s1 s2 s3 s4 y0 y1 y2 y3 y4 o0 o1 o2 o3 o4 x15 hb2
        obtain ⟨s0, s1, s2, s3, s4⟩ := XS2.out.five
        obtain ⟨y0, y1, y2, y3, y4⟩ := XY2.out.five
        have o0 := XA2.out.at 5 _ rfl
        have o1 := XA2.out.at 6 _ rfl
        have o2 := XA2.out.at 7 _ rfl
        have o3 := XA2.out.at 8 _ rfl
        have o4 := XA2.out.at 9 _ rfl
        have x15 := XA2.out.at 15 _ rfl
        go_wp2_with fail
        refine (rights_any o _ true true HR3.out).mono ?_
        rintro e w3 ⟨rfl, hb3⟩
        have XA3 := Lib.hid (XA2.out.below hb3)
        have XS3 := Lib.hid (XS2.out.below hb3)
        have XY3 := Lib.hid (XY2.out.below hb3)
        have HB3 := Lib.hid (below_step HB2.out hb3)
        clear s0 s1 s2 s3 s4 y0 y1 y2 y3 y4 o0 o1 o2 o3 o4 x15 hb3
        obtain ⟨s0, s1, s2, s3, s4⟩ := XS3.out.five
        obtain ⟨y0, y1, y2, y3, y4⟩ := XY3.out.five
        have o0 := XA3.out.at 5 _ rfl
        have o1 := XA3.out.at 6 _ rfl
        have o2 := XA3.out.at 7 _ rfl
        have o3 := XA3.out.at 8 _ rfl
        have o4 := XA3.out.at 9 _ rfl
        have x15 := XA3.out.at 15 _ rfl
        go_wp2_with (go_at_call 26; (refine (superAwake_any _ A (HS.out.below HB3.out)).mono ?_); (rintro e w8 ⟨rfl, hb8⟩); (have HB8 := Lib.hid (below_step HB3.out hb8)); (clear hb8))
        go_ret
        exact ⟨rfl, HB8.out⟩
      · have q_sblocks_yblocks : (s.blocks == y.blocks) = true := by simp; omega
        have q_ssize_ysize : (s.size == y.size) = true := by simp; omega
        have q_sblocks_oblocks : (s.blocks == o.blocks) = true := by simp; omega
        have q_ssize_osize : (s.size == o.size) = true := by simp; omega
        clear h1 h2 h3 h4
        have XA0 := HXA
        have XS0 := HXS
        have XY0 := HXY
        have HB0 := HBW
        obtain ⟨s0, s1, s2, s3, s4⟩ := HXS.out.five
        obtain ⟨y0, y1, y2, y3, y4⟩ := HXY.out.five
        have o0 := HXA.out.at 5 _ rfl
        have o1 := HXA.out.at 6 _ rfl
        have o2 := HXA.out.at 7 _ rfl
        have o3 := HXA.out.at 8 _ rfl
        have o4 := HXA.out.at 9 _ rfl
        have x15 := HXA.out.at 15 _ rfl
        go_wp2_with fail
        refine (rights_any s _ true true HR1.out).mono ?_
        rintro e w1 ⟨rfl, hb1⟩
        have XA1 := Lib.hid (XA0.out.below hb1)
        have XS1 := Lib.hid (XS0.out.below hb1)
        have XY1 := Lib.hid (XY0.out.below hb1)
        have HB1 := Lib.hid (below_step HB0.out hb1)
        clear s0 s1 s2 s3 s4 y0 y1 y2 y3 y4 o0 o1 o2 o3 o4 x15 hb1
        obtain ⟨s0, s1, s2, s3, s4⟩ := XS1.out.five
        obtain ⟨y0, y1, y2, y3, y4⟩ := XY1.out.five
        have o0 := XA1.out.at 5 _ rfl
        have o1 := XA1.out.at 6 _ rfl
        have o2 := XA1.out.at 7 _ rfl
        have o3 := XA1.out.at 8 _ rfl
        have o4 := XA1.out.at 9 _ rfl
        have x15 := XA1.out.at 15 _ rfl
        go_wp2_with fail
        refine (rights_any y _ true true HR2.out).mono ?_
        rintro e w2 ⟨rfl, hb2⟩
        have XA2 := Lib.hid (XA1.out.below hb2)
        have XS2 := Lib.hid (XS1.out.below hb2)
        have XY2 := Lib.hid (XY1.out.below hb2)
        have HB2 := Lib.hid (below_step HB1.out hb2)
        clear s0 s1 s2 s3 s4 y0 y1 y2 y3 y4 o0 o1 o2 o3 o4 x15 hb2
        obtain ⟨s0, s1, s2, s3, s4⟩ := XS2.out.five
        obtain ⟨y0, y1, y2, y3, y4⟩ := XY2.out.five
        have o0 := XA2.out.at 5 _ rfl
        have o1 := XA2.out.at 6 _ rfl
        have o2 := XA2.out.at 7 _ rfl
        have o3 := XA2.out.at 8 _ rfl
        have o4 := XA2.out.at 9 _ rfl
        have x15 := XA2.out.at 15 _ rfl
        go_wp2_with fail
        refine (rights_any o _ true true HR3.out).mono ?_
        rintro e w3 ⟨rfl, hb3⟩
        have XA3 := Lib.hid (XA2.out.below hb3)
        have XS3 := Lib.hid (XS2.out.below hb3)
        have XY3 := Lib.hid (XY2.out.below hb3)
        have HB3 := Lib.hid (below_step HB2.out hb3)
        clear s0 s1 s2 s3 s4 y0 y1 y2 y3 y4 o0 o1 o2 o3 o4 x15 hb3
        obtain ⟨s0, s1, s2, s3, s4⟩ := XS3.out.five
        obtain ⟨y0, y1, y2, y3, y4⟩ := XY3.out.five
        have o0 := XA3.out.at 5 _ rfl
        have o1 := XA3.out.at 6 _ rfl
        have o2 := XA3.out.at 7 _ rfl
        have o3 := XA3.out.at 8 _ rfl
        have o4 := XA3.out.at 9 _ rfl
        have x15 := XA3.out.at 15 _ rfl
        go_wp2_with (go_at_call 26; (refine (superAwake_any _ A (HS.out.below HB3.out)).mono ?_); (rintro e w8 ⟨rfl, hb8⟩); (have HB8 := Lib.hid (below_step HB3.out hb8)); (clear hb8))
        go_ret
        exact ⟨rfl, HB8.out⟩
      · have q_sblocks_yblocks : (s.blocks == y.blocks) = true := by simp; omega
        have q_ssize_ysize : (s.size == y.size) = true := by simp; omega
        have q_sblocks_oblocks : (s.blocks == o.blocks) = true := by simp; omega
        have q_ssize_osize : (s.size == o.size) = true := by simp; omega
        have hri := Su.right_iff.1 hr2
        have hsz : 256 ≤ s.size ∧ s.size ≤ 1024 := by omega
        have hys : y.size ≤ 1024 := by omega
        have HSZ := Lib.hid h2
        have HSO := Lib.hid h4
        have HLAW := Lib.hid (fun (old : List UInt8) (hl : old.length = y.size.toNat) (hold : Su.OldIs y old) => Su.torn_law (cut := cut.toNat) HR1.out HR2.out hsg hyg (by omega : s.gen < y.gen) hl hold)
        have HGE := Lib.hid hw2
        have hge : ((y.gen : Int) == (s.gen : Int)) = false := by simp; omega
        clear hri h1 h2 h3 h4
        have XA0 := HXA
        have XS0 := HXS
        have XY0 := HXY
        have HB0 := HBW
        obtain ⟨s0, s1, s2, s3, s4⟩ := HXS.out.five
        obtain ⟨y0, y1, y2, y3, y4⟩ := HXY.out.five
        have o0 := HXA.out.at 5 _ rfl
        have o1 := HXA.out.at 6 _ rfl
        have o2 := HXA.out.at 7 _ rfl
        have o3 := HXA.out.at 8 _ rfl
        have o4 := HXA.out.at 9 _ rfl
        have x15 := HXA.out.at 15 _ rfl
        go_wp2_with fail
        refine (rights_any s _ true true HR1.out).mono ?_
        rintro e w1 ⟨rfl, hb1⟩
        have XA1 := Lib.hid (XA0.out.below hb1)
        have XS1 := Lib.hid (XS0.out.below hb1)
        have XY1 := Lib.hid (XY0.out.below hb1)
        have HB1 := Lib.hid (below_step HB0.out hb1)
        clear s0 s1 s2 s3 s4 y0 y1 y2 y3 y4 o0 o1 o2 o3 o4 x15 hb1
        obtain ⟨s0, s1, s2, s3, s4⟩ := XS1.out.five
        obtain ⟨y0, y1, y2, y3, y4⟩ := XY1.out.five
        have o0 := XA1.out.at 5 _ rfl
        have o1 := XA1.out.at 6 _ rfl
        have o2 := XA1.out.at 7 _ rfl
        have o3 := XA1.out.at 8 _ rfl
        have o4 := XA1.out.at 9 _ rfl
        have x15 := XA1.out.at 15 _ rfl
        go_wp2_with fail
        refine (rights_any y _ true true HR2.out).mono ?_
        rintro e w2 ⟨rfl, hb2⟩
        have XA2 := Lib.hid (XA1.out.below hb2)
        have XS2 := Lib.hid (XS1.out.below hb2)
        have XY2 := Lib.hid (XY1.out.below hb2)
        have HB2 := Lib.hid (below_step HB1.out hb2)
        clear s0 s1 s2 s3 s4 y0 y1 y2 y3 y4 o0 o1 o2 o3 o4 x15 hb2
        obtain ⟨s0, s1, s2, s3, s4⟩ := XS2.out.five
        obtain ⟨y0, y1, y2, y3, y4⟩ := XY2.out.five
        have o0 := XA2.out.at 5 _ rfl
        have o1 := XA2.out.at 6 _ rfl
        have o2 := XA2.out.at 7 _ rfl
        have o3 := XA2.out.at 8 _ rfl
        have o4 := XA2.out.at 9 _ rfl
        have x15 := XA2.out.at 15 _ rfl
        go_wp2_with fail
        refine (rights_any o _ true true HR3.out).mono ?_
        rintro e w3 ⟨rfl, hb3⟩
        have XA3 := Lib.hid (XA2.out.below hb3)
        have XS3 := Lib.hid (XS2.out.below hb3)
        have XY3 := Lib.hid (XY2.out.below hb3)
        have HB3 := Lib.hid (below_step HB2.out hb3)
        clear s0 s1 s2 s3 s4 y0 y1 y2 y3 y4 o0 o1 o2 o3 o4 x15 hb3
        obtain ⟨s0, s1, s2, s3, s4⟩ := XS3.out.five
        obtain ⟨y0, y1, y2, y3, y4⟩ := XY3.out.five
        have o0 := XA3.out.at 5 _ rfl
        have o1 := XA3.out.at 6 _ rfl
        have o2 := XA3.out.at 7 _ rfl
        have o3 := XA3.out.at 8 _ rfl
        have o4 := XA3.out.at 9 _ rfl
        have x15 := XA3.out.at 15 _ rfl
        go_upto_region 7 with (at_make; refine wpList_make_bytes rfl _ _ rfl s.size.toNat s.size s.size rfl rfl (by omega) (by omega) (by omega) ?_)
        intro w4 ho4 hg4
        have HO4 := Lib.hid ho4.bytes
        have XA4 := Lib.hid (XA3.out.grownR hg4 (by simp))
        have XS4 := Lib.hid (XS3.out.grownR hg4 (by simp))
        have XY4 := Lib.hid (XY3.out.grownR hg4 (by simp))
        have HB4 := Lib.hid (below_step HB3.out (grown_below hg4 (by simp) (Nat.le_refl _)))
        clear s0 s1 s2 s3 s4 y0 y1 y2 y3 y4 o0 o1 o2 o3 o4 x15 ho4 hg4 q_sblocks_yblocks q_ssize_ysize q_sblocks_oblocks q_ssize_osize hw hw2
        have x15 := XA4.out.at 15 _ rfl
        have o0 := XA4.out.at 5 _ rfl
        have o1 := XA4.out.at 6 _ rfl
        have o2 := XA4.out.at 7 _ rfl
        have o3 := XA4.out.at 8 _ rfl
        have o4 := XA4.out.at 9 _ rfl
        go_upto_if 74 with fail
        go_cut [6] (fun v wx => ∃ (old : List UInt8) (a : Option Addr) (c : Nat), v = .slice a old.length c ∧ BytesAt wx (.slice a old.length c) old ∧ Su.OldIs y old ∧ old.length = y.size.toNat ∧ BoxAt wx (w.heap.size + 1) [.int .u64 (s.gen : Int), .int .i64 s.blocks, .int .i64 s.size, .int .i64 s.root, .int .i64 s.keys] ∧ BoxAt wx (w.heap.size + 1 + 1) [.int .u64 (y.gen : Int), .int .i64 y.blocks, .int .i64 y.size, .int .i64 y.root, .int .i64 y.keys] ∧ Below w.heap.size w wx)
        case first =>
          cases bare with
          | true =>
            go_wp2_with fail
            go_meet
            exact ⟨List.replicate s.size.toNat 0, _, _, by rw [List.length_replicate], by rw [List.length_replicate]; exact HO4.out, .inr (by rw [HSZ.out]), by rw [List.length_replicate, HSZ.out], XS4.out, XY4.out, HB4.out⟩
          | false =>
            go_wp2_with (go_at_call 27; (refine (refSupSeal_ok o 1 _ rfl _ HR3.out (.inr rfl) hog).mono ?_); (rintro e w5 ⟨⟨a5, c5, rfl, ho5⟩, hb5⟩); (have HO5 := Lib.hid ho5.bytes); (have XS5 := Lib.hid (XS4.out.below hb5)); (have XY5 := Lib.hid (XY4.out.below hb5)); (have HB5 := Lib.hid (below_step HB4.out hb5)); (clear ho5 hb5))
            go_meet
            exact ⟨Su.supSeal o 1, a5, c5, rfl, HO5.out, .inl ⟨o, HR3.out, rfl, hog, by have := HGE.out; omega, by rw [← HSO.out, HSZ.out]⟩, by rw [Su.seal_len HR3.out, ← HSO.out, HSZ.out], XS5.out, XY5.out, HB5.out⟩
        case rest =>
          obtain ⟨old, a6, c6, rfl, ho6, hold, hol, hxs, hxy, hbc⟩ := hcut
          have HO6 := Lib.hid ho6
          have XS6 := Lib.hid hxs
          have XY6 := Lib.hid hxy
          have HB6 := Lib.hid hbc
          have hlaw := HLAW.out old hol hold
          have HOLL := Lib.hid hol
          obtain ⟨KL, hKL⟩ : ∃ KL, Su.supSeal s 0 = KL := ⟨_, rfl⟩
          obtain ⟨BL, hBL⟩ : ∃ BL, Su.supSeal y 1 = BL := ⟨_, rfl⟩
          have hbl : BL.length = y.size.toNat := by rw [← hBL]; exact Su.seal_len HR2.out
          rw [hKL, hBL] at hlaw
          have HKL := Lib.hid hKL
          have HBL := Lib.hid hBL
          have HBLL := Lib.hid hbl
          clear ho6 hxs hxy hbc hol hold hKL hBL hbl x15 o0 o1 o2 o3 o4
          obtain ⟨s0, s1, s2, s3, s4⟩ := XS6.out.five
          obtain ⟨y0, y1, y2, y3, y4⟩ := XY6.out.five
          go_upto_region 11 with (first
            | (go_at_call 28; ((with_reducible refine (superSeal_ok s 0 KL HKL.out _ A (HS.out.below HB6.out) HR1.out (.inl rfl) hsg).mono ?_); rintro e w7 ⟨⟨a7, c7, rfl, ho7⟩, hb7⟩); (have HO7 := Lib.hid ho7.bytes); (have HO67 := Lib.hid (HO6.out.below hb7)); (have XS7 := Lib.hid (XS6.out.below hb7)); (have XY7 := Lib.hid (XY6.out.below hb7)); (have HB7 := Lib.hid (below_step HB6.out hb7)); (clear s0 s1 s2 s3 s4 y0 y1 y2 y3 y4); (obtain ⟨s0, s1, s2, s3, s4⟩ := XS7.out.five); (obtain ⟨y0, y1, y2, y3, y4⟩ := XY7.out.five); (clear ho7 hb7))
            | (go_at_call 28; ((with_reducible refine (superSeal_ok y 1 BL HBL.out _ A (HS.out.below HB7.out) HR2.out (.inr rfl) hyg).mono ?_); rintro e w9 ⟨⟨a9, c9, rfl, ho9⟩, hb9⟩); (have HO9 := Lib.hid ho9.bytes); (have HO79 := Lib.hid (HO7.out.below hb9)); (have HO69 := Lib.hid (HO67.out.below hb9)); (have XS9 := Lib.hid (XS7.out.below hb9)); (have XY9 := Lib.hid (XY7.out.below hb9)); (have HB9 := Lib.hid (below_step HB7.out hb9)); (clear ho9 hb9)))
          clear s0 s1 s2 s3 s4 y0 y1 y2 y3 y4
          rcases hlaw with ⟨hA, X, hB⟩ | ⟨o', hA⟩
          · have HA := Lib.hid (choose_of _ _ _ _ hA)
            clear hA
            go_upto_region 14 with (go_at_call 29; (refine (choose_some a7 a6 c7 c6 KL old s 0 HA.out _ A (HS.out.below HB9.out) HO79.out HO69.out).mono ?_); (rintro e w10 ⟨rfl, hb10⟩); (have HB10 := Lib.hid (below_step HB9.out hb10)); (have XY10 := Lib.hid (XY9.out.below hb10)); (have HOB10 := Lib.hid (HO9.out.below hb10)); (have HOO10 := Lib.hid (HO69.out.below hb10)); (have HOK10 := Lib.hid (HO79.out.below hb10)); (clear hb10))
            refine wp_name fun W2 hW2 => ?_
            have XW := Lib.hid (show BoxAt W2 w10.heap.size [.int .u64 (s.gen : Int), .int .i64 s.blocks, .int .i64 s.size, .int .i64 s.root, .int .i64 s.keys] by rw [hW2]; exact BoxAt.new w10 [_, _, _, _, _] _)
            have XY11 := Lib.hid (show BoxAt W2 (w.heap.size + 1 + 1) [.int .u64 (y.gen : Int), .int .i64 y.blocks, .int .i64 y.size, .int .i64 y.root, .int .i64 y.keys] by rw [hW2]; exact XY10.out.alloc _)
            have HOB := Lib.hid (show BytesAt W2 (.slice a9 BL.length c9) BL by rw [hW2]; exact HOB10.out.alloc _)
            have HOO := Lib.hid (show BytesAt W2 (.slice a6 old.length c6) old by rw [hW2]; exact HOO10.out.alloc _)
            have HOK := Lib.hid (show BytesAt W2 (.slice a7 KL.length c7) KL by rw [hW2]; exact HOK10.out.alloc _)
            have HBX := Lib.hid (show Below w.heap.size w W2 by rw [hW2]; exact HB10.out.alloc HB10.out.size _)
            clear hW2
            obtain ⟨TL, hTL⟩ : ∃ TL, Su.tornL old BL cut.toNat = TL := ⟨_, rfl⟩
            rw [hTL] at hB
            have HTL := Lib.hid hTL
            clear hTL
            rcases hB with ⟨hB, hct⟩ | hB
            · have HCB := Lib.hid (choose_of _ _ _ _ hB)
              have hc2 : cut < (BL.length : Int) := by have := HBLL.out; omega
              clear hB hct
              go_upto_region 17 with (first
                | (go_at_call 30; (refine (torn_any _ _ old BL cut _ HOO.out HOB.out (by rw [HOLL.out, HBLL.out]) (by have := HBLL.out; omega)).mono ?_); (rintro e w12 ⟨⟨a12, c12, rfl, ho12⟩, hb12⟩); (rw [HTL.out] at ho12 ⊢); (have HO12 := Lib.hid ho12.bytes); (have HOK12 := Lib.hid (HOK.out.below hb12)); (have XW12 := Lib.hid (XW.out.below hb12)); (have XY12 := Lib.hid (XY11.out.below hb12)); (have HB12 := Lib.hid (below_step HBX.out hb12)); (clear ho12 hb12))
                | (go_at_call 29; (refine (choose_some a7 a12 c7 c12 KL TL s X HCB.out _ A (HS.out.below HB12.out) HOK12.out HO12.out).mono ?_); (rintro e w13 ⟨rfl, hb13⟩); (have XW13 := Lib.hid (XW12.out.below hb13)); (have XY13 := Lib.hid (XY12.out.below hb13)); (have HB13 := Lib.hid (below_step HB12.out hb13)); (clear hb13)))
              refine wp_name fun W3 hW3 => ?_
              have XN := Lib.hid (show BoxAt W3 w13.heap.size [.int .u64 (s.gen : Int), .int .i64 s.blocks, .int .i64 s.size, .int .i64 s.root, .int .i64 s.keys] by rw [hW3]; exact BoxAt.new w13 [_, _, _, _, _] _)
              have XW14 := Lib.hid (show BoxAt W3 w10.heap.size [.int .u64 (s.gen : Int), .int .i64 s.blocks, .int .i64 s.size, .int .i64 s.root, .int .i64 s.keys] by rw [hW3]; exact XW13.out.alloc _)
              have XY14 := Lib.hid (show BoxAt W3 (w.heap.size + 1 + 1) [.int .u64 (y.gen : Int), .int .i64 y.blocks, .int .i64 y.size, .int .i64 y.root, .int .i64 y.keys] by rw [hW3]; exact XY13.out.alloc _)
              have HB14 := Lib.hid (show Below w.heap.size w W3 by rw [hW3]; exact HB13.out.alloc HB13.out.size _)
              clear hW3
              obtain ⟨n0, n1, n2, n3, n4⟩ := XN.out.five
              obtain ⟨s0, s1, s2, s3, s4⟩ := XW14.out.five
              obtain ⟨y0, y1, y2, y3, y4⟩ := XY14.out.five
              go_wp2_with (go_at_call 26; (refine (superAwake_any _ A (HS.out.below HB14.out)).mono ?_); (rintro e w8 ⟨rfl, hb8⟩); (have HB8 := Lib.hid (below_step HB14.out hb8)); (clear hb8))
              go_ret
              exact ⟨rfl, HB8.out⟩
            · have HCB := Lib.hid (choose_of _ _ _ _ hB)
              clear hB
              by_cases hc2 : cut < (BL.length : Int)
              all_goals
                go_upto_region 17 with (first
                  | (go_at_call 30; (refine (torn_any _ _ old BL cut _ HOO.out HOB.out (by rw [HOLL.out, HBLL.out]) (by have := HBLL.out; omega)).mono ?_); (rintro e w12 ⟨⟨a12, c12, rfl, ho12⟩, hb12⟩); (rw [HTL.out] at ho12 ⊢); (have HO12 := Lib.hid ho12.bytes); (have HOK12 := Lib.hid (HOK.out.below hb12)); (have XW12 := Lib.hid (XW.out.below hb12)); (have XY12 := Lib.hid (XY11.out.below hb12)); (have HB12 := Lib.hid (below_step HBX.out hb12)); (clear ho12 hb12))
                  | (go_at_call 29; (refine (choose_some a7 a12 c7 c12 KL TL y X HCB.out _ A (HS.out.below HB12.out) HOK12.out HO12.out).mono ?_); (rintro e w13 ⟨rfl, hb13⟩); (have XW13 := Lib.hid (XW12.out.below hb13)); (have XY13 := Lib.hid (XY12.out.below hb13)); (have HB13 := Lib.hid (below_step HB12.out hb13)); (clear hb13)))
                refine wp_name fun W3 hW3 => ?_
                have XN := Lib.hid (show BoxAt W3 w13.heap.size [.int .u64 (y.gen : Int), .int .i64 y.blocks, .int .i64 y.size, .int .i64 y.root, .int .i64 y.keys] by rw [hW3]; exact BoxAt.new w13 [_, _, _, _, _] _)
                have XW14 := Lib.hid (show BoxAt W3 w10.heap.size [.int .u64 (s.gen : Int), .int .i64 s.blocks, .int .i64 s.size, .int .i64 s.root, .int .i64 s.keys] by rw [hW3]; exact XW13.out.alloc _)
                have XY14 := Lib.hid (show BoxAt W3 (w.heap.size + 1 + 1) [.int .u64 (y.gen : Int), .int .i64 y.blocks, .int .i64 y.size, .int .i64 y.root, .int .i64 y.keys] by rw [hW3]; exact XY13.out.alloc _)
                have HB14 := Lib.hid (show Below w.heap.size w W3 by rw [hW3]; exact HB13.out.alloc HB13.out.size _)
                clear hW3
                obtain ⟨n0, n1, n2, n3, n4⟩ := XN.out.five
                obtain ⟨s0, s1, s2, s3, s4⟩ := XW14.out.five
                obtain ⟨y0, y1, y2, y3, y4⟩ := XY14.out.five
                go_wp2_with (go_at_call 26; (refine (superAwake_any _ A (HS.out.below HB14.out)).mono ?_); (rintro e w8 ⟨rfl, hb8⟩); (have HB8 := Lib.hid (below_step HB14.out hb8)); (clear hb8))
                go_ret
                exact ⟨rfl, HB8.out⟩
          · have HA := Lib.hid (choose_of _ _ _ _ hA)
            clear hA
            go_wp2_with (first
              | (go_at_call 29; (refine (choose_some a7 a6 c7 c6 KL old o' 1 HA.out _ A (HS.out.below HB9.out) HO79.out HO69.out).mono ?_); (rintro e w10 ⟨rfl, hb10⟩); (have HB10B := Lib.hid (below_step HB9.out (below_step hb10 ((Below.refl _ _).alloc (Nat.le_refl _) (.cells #[.int .u64 (o'.gen : Int), .int .i64 o'.blocks, .int .i64 o'.size, .int .i64 o'.root, .int .i64 o'.keys] 48))))); (clear hb10))
              | (go_at_call 26; (refine (superAwake_any _ A (HS.out.below HB10B.out)).mono ?_); (rintro e w8 ⟨rfl, hb8⟩); (have HB8 := Lib.hid (below_step HB10B.out hb8)); (clear hb8)))
            go_ret
            exact ⟨rfl, HB8.out⟩
end Go.Proofs.YtaofhdoieffhhaaDoor
