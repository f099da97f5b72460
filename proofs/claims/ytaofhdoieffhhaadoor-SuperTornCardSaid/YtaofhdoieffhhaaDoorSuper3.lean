/- superblocks: super.said -/
import Derived.Test.YtaofhdoieffhhaaDoorSuper2
import Derived.Test.YtaofhdoieffhhaaDoorPageOpen3
namespace Go.Proofs.YtaofhdoieffhhaaDoor
open Go.RowKit
set_option linter.unusedVariables false
set_option linter.unusedSimpArgs false

theorem if_not_mk {c t e : Prop} [Decidable c] (hc : ¬ c) (he : e) : if c then t else e := by rw [if_neg hc]; exact he
/-- the numbers so far -/
def arrL (l : List UInt8) : Nat → List Value
  | 0 => [.int .i64 0, .int .i64 0, .int .i64 0, .int .i64 0]
  | 1 => [.int .i64 (numI l 0 4), .int .i64 0, .int .i64 0, .int .i64 0]
  | 2 => [.int .i64 (numI l 0 4), .int .i64 (numI l 4 4), .int .i64 0, .int .i64 0]
  | 3 => [.int .i64 (numI l 0 4), .int .i64 (numI l 4 4), .int .i64 (numI l 8 4), .int .i64 0]
  | _ => [.int .i64 (numI l 0 4), .int .i64 (numI l 4 4), .int .i64 (numI l 8 4), .int .i64 (numI l 12 4)]
theorem take_short (v : Value) (l : List UInt8) (A X : Int) (w : World) (A' : Nat → Addr) {S : Nat → Prop} [Has S 1] [Has S 2] (hs : SentsOn S w A') (hb : BytesAt w v l) (hx : Fld.right X = true) (hA : 0 ≤ A) (h1 : A ≤ l.length) (hat : (l.length : Int) < A + X) :
    Calls Tryd.prog 63 #[v, .int .i64 A, .int .i64 X] w fun e w' => (∃ t x, e = .returned (.tuple #[.int .u64 0, .iface t x])) ∧ Below w.heap.size w w' := by
  refine (take_any v l A X w A' hs hb).mono fun e w' ⟨⟨ev, lp, he, hE⟩, hb⟩ => ⟨?_, hb⟩
  have hT : takeS l A X = (0, 1) := by
    unfold takeS
    rw [if_neg (by rw [hx]; simp; omega), if_pos (by rcases Fld.right_cases hx with h | h | h | h <;> omega)]
  rw [hT] at he hE
  obtain ⟨t, x, rfl⟩ := hE.iface (by decide)
  exact ⟨t, x, he⟩
/-- what super.said tells: the superblock that is said (none, where the body is too short), and whether it is one -/
def saidS (p : Pg.Page) : Su.Sup := if p.body.length < 16 then Su.zero else Su.saidL p
def GivesSaid (p : Pg.Page) (e : Ending) : Prop := e = .returned (.tuple #[supV (saidS p), .bool (Su.says p)])

set_option maxRecDepth 100000 in
set_option maxHeartbeats 40000000 in
theorem said_any (p : Pg.Page) (a : Option Addr) (c : Nat) (w : World) (A : Nat → Addr) {S : Nat → Prop} [Has S 1] [Has S 2] [Has S 5] (hs : SentsOn S w A) (hb : BytesAt w (.slice a p.body.length c) p.body) (hg : p.gen < 18446744073709551616) (hl : p.body.length ≤ 140737488351232) :
    Calls Tryd.prog 57 #[.agg #[.int .i64 p.kind, .int .i64 p.id, .int .u64 (p.gen : Int), .slice a p.body.length c]] w fun e w' => GivesSaid p e ∧ Below w.heap.size w w' := by
  have HS := Lib.hid hs
  have HB := Lib.hid hb
  have HSS := Lib.hid (show saidS p = if p.body.length < 16 then Su.zero else Su.saidL p from rfl)
  have HSL := Lib.hid (show Su.saidL p = ⟨p.gen, numI p.body 0 4, numI p.body 4 4, numI p.body 8 4, numI p.body 12 4⟩ from rfl)
  have HSY := Lib.hid (show Su.says p = (decide (p.body.length = 24) && (decide (Pg.num p.body 16 8 = p.gen) && (decide (p.kind = 1) && Su.right (Su.saidL p)))) from rfl)
  clear hs hb
  obtain ⟨kind, id, gen, body⟩ := p
  simp only at *
  have u0 : 0 ≤ numI body 0 4 ∧ numI body 0 4 < 4294967296 := by have := Pg.num_lt body 0 4; unfold numI; simp; omega
  have u1 : 0 ≤ numI body 4 4 ∧ numI body 4 4 < 4294967296 := by have := Pg.num_lt body 4 4; unfold numI; simp; omega
  have u2 : 0 ≤ numI body 8 4 ∧ numI body 8 4 < 4294967296 := by have := Pg.num_lt body 8 4; unfold numI; simp; omega
  have u3 : 0 ≤ numI body 12 4 ∧ numI body 12 4 < 4294967296 := by have := Pg.num_lt body 12 4; unfold numI; simp; omega
  have U0 := Lib.hid u0
  have U1 := Lib.hid u1
  have U2 := Lib.hid u2
  have U3 := Lib.hid u3
  clear u0 u1 u2 u3
  go_enter Tryd.func57, Tryd.ntmps57
  go_wp2_with fail
  refine wp_name fun W hW => ?_
  have hX1 : BoxAt W w.heap.size [.int .i64 kind, .int .i64 id, .int .u64 (gen : Int), .slice a body.length c] := by rw [hW]; exact ((BoxAt.new w [_, _, _, _] _).alloc _).alloc _
  have hX2 : BoxAt W (w.heap.size + 1) [.int .u64 0, .int .i64 0, .int .i64 0, .int .i64 0, .int .i64 0] := by rw [hW]; exact (BoxAt.newAt (w.alloc _) _ (by simp) [_, _, _, _, _] _).alloc _
  have hX3 : BoxAt W (w.heap.size + 1 + 1) (arrL body 0) := by rw [hW]; exact BoxAt.newAt ((w.alloc _).alloc _) _ (by simp) [_, _, _, _] _
  have hbW : Below w.heap.size w W := by rw [hW]; go_grown
  have HX1 := Lib.hid hX1
  have HX2 := Lib.hid hX2
  have HX3 := Lib.hid hX3
  have HBW := Lib.hid hbW
  have hsW := hX3.lt
  clear hW hX1 hX2 hX3 hbW
  go_wp2_with fail
  go_loopw [11] (fun i wr => ∃ j : Nat, j ≤ 4 ∧ i = .int .i64 j ∧ 4 * j ≤ body.length ∧ BoxAt wr (w.heap.size + 1 + 1) (arrL body j) ∧ W.grownBy wr (some (w.heap.size + 1 + 1))) (fun i _ => 4 - (intOf i).toNat)
  case atStart => exact ⟨0, by omega, rfl, by omega, HX3.out, World.grownBy.refl _ _⟩
  case round =>
    obtain ⟨j, hj, rfl, hjb, hx3, hgr⟩ := hrel
    have Y1 := Lib.hid (HX1.out.grownR hgr (by simp; omega))
    have Y2 := Lib.hid (HX2.out.grownR hgr (by simp))
    have Y3 := Lib.hid hx3
    have HGR := Lib.hid hgr
    have HBR := Lib.hid (HBW.out.grown hgr HBW.out.size (fun k hk => by simp at hk; omega))
    have hsr := hgr.size
    clear hx3 hgr
    by_cases hj4 : j = 4
    · subst hj4
      obtain ⟨m0, m1, m2, m3⟩ := Y1.out.four
      obtain ⟨n0, n1, n2, n3⟩ := BoxAt.four (show BoxAt wr (w.heap.size + 1 + 1) [.int .i64 (numI body 0 4), .int .i64 (numI body 4 4), .int .i64 (numI body 8 4), .int .i64 (numI body 12 4)] from Y3.out)
      have HSS2 := Lib.hid (show saidS ⟨kind, id, gen, body⟩ = ⟨gen, numI body 0 4, numI body 4 4, numI body 8 4, numI body 12 4⟩ by rw [HSS.out, if_neg (by omega), HSL.out])
      have k1 : w.heap.size < wr.heap.size := by omega
      have k2 : w.heap.size + 1 < wr.heap.size := by omega
      have k3 : w.heap.size + 1 + 1 < wr.heap.size := by omega
      go_upto_region 11 with fail
      refine wp_name fun V hV => ?_
      have Z1 := Lib.hid (show BoxAt V w.heap.size [.int .i64 kind, .int .i64 id, .int .u64 (gen : Int), .slice a body.length c] by rw [hV]; exact Y1.out.alloc _)
      have Z2 := Lib.hid (show BoxAt V (w.heap.size + 1) [.int .u64 0, .int .i64 0, .int .i64 0, .int .i64 0, .int .i64 0] by rw [hV]; exact Y2.out.alloc _)
      have Z8 := Lib.hid (show BoxAt V wr.heap.size [.int .u64 (gen : Int), .int .i64 (numI body 0 4), .int .i64 (numI body 4 4), .int .i64 (numI body 8 4), .int .i64 (numI body 12 4)] by rw [hV]; exact BoxAt.new wr [_, _, _, _, _] _)
      have HBV := Lib.hid (show Below w.heap.size w V by rw [hV]; exact HBR.out.alloc HBR.out.size _)
      have hsV := Z8.out.lt
      clear hV m0 m1 m2 m3 n0 n1 n2 n3
      obtain ⟨m0, m1, m2, m3⟩ := Z1.out.four
      have hmul : ∀ (x y : Int), decide (x = y) = (x == y) := fun x y => by by_cases h : x = y <;> simp [h]
      have HMUL := Lib.hid hmul
      clear hmul
      by_cases h24 : 24 ≤ body.length
      · by_cases ha : Pg.num body 16 8 = gen
        · by_cases hb24 : body.length = 24
          · by_cases hk1 : kind = 1
            · cases hrb : Su.right ⟨gen, numI body 0 4, numI body 4 4, numI body 8 4, numI body 12 4⟩ with
              | false =>
                have hne : (numI body 16 8 == (gen : Int)) = true := by unfold numI; simp; omega
                have hln : ((body.length : Int) == 24) = true := by simp; omega
                have hkn : (kind == 1) = true := by simp; omega
                have HRB := Lib.hid hrb
                have HNO : Hid (Su.says ⟨kind, id, gen, body⟩ = false) := Lib.hid (by rw [HSY.out, HSL.out, hrb]; simp; try omega)
                clear ha hb24 hk1 hrb
                go_upto_region 12 with (go_at_call 63; (refine (take_num _ body 16 8 _ (HB.out.below HBV.out) (by decide) (by decide) (by omega)).mono ?_); (rintro e w1 ⟨rfl, rfl⟩))
                have a0 := Near.cell (w := V.drew) (row := some (w.heap.size + 1)) (Z8.out.at 0 _ rfl) (by simp <;> omega)
                have a1 := Near.cell (w := V.drew) (row := some (w.heap.size + 1)) (Z8.out.at 1 _ rfl) (by simp <;> omega)
                have a2 := Near.cell (w := V.drew) (row := some (w.heap.size + 1)) (Z8.out.at 2 _ rfl) (by simp <;> omega)
                have a3 := Near.cell (w := V.drew) (row := some (w.heap.size + 1)) (Z8.out.at 3 _ rfl) (by simp <;> omega)
                have a4 := Near.cell (w := V.drew) (row := some (w.heap.size + 1)) (Z8.out.at 4 _ rfl) (by simp <;> omega)
                have b0 := Near.cell (w := V.drew) (row := some (w.heap.size + 1)) (Z1.out.at 0 _ rfl) (by simp <;> omega)
                have b2 := Near.cell (w := V.drew) (row := some (w.heap.size + 1)) (Z1.out.at 2 _ rfl) (by simp <;> omega)
                have b3 := Near.cell (w := V.drew) (row := some (w.heap.size + 1)) (Z1.out.at 3 _ rfl) (by simp <;> omega)
                refine wp_region_mix (fun w' => ∃ x : Near V.drew (some (w.heap.size + 1)), w' = x.world) [] 27 (by kernel_rfl) rfl ?_
                refine mix_reads_lit [0, 1, 2, 3, 4, 5, 6, 7, 8, 9, 10, 11, 12, 13, 14, 15, 16, 17, 18, 19, 20, 21] 5 (by kernel_rfl) (by kernel_rfl) (by kernel_rfl) (by kernel_rfl) rfl (NearC.of (World.grownBy.refl _ _)) ?_
                simp only [pick, List.filterMap_cons, List.filterMap_nil, List.getElem?_cons_succ, List.getElem?_cons_zero]
                repeat (first | go_big_quiet_step (fail) | quiet_step (fail))
                refine wpQuiet_nil ?_
                refine mix_deed_lit 22 4 (by kernel_rfl) (by kernel_rfl) rfl (fun K hK => ?_)
                simp only [comesUp, List.getElem?_cons_succ, List.getElem?_cons_zero]
                refine if_mk rfl ?_
                go_simp
                refine (superCheck_bad ⟨gen, numI body 0 4, numI body 4 4, numI body 8 4, numI body 12 4⟩ HRB.out _ A (HS.out.below HBV.out.drew)).mono ?_
                rintro e w2 ⟨⟨t2, x2, l2, rfl, hE2⟩, hb2⟩
                have gb : V.drew.grownBy w2 (some (w.heap.size + 1)) := grown_of_below hb2 (Nat.le_refl _) _
                refine hK _ _ (fun _ _ => NearC.of gb) ?_
                clear hK K
                have BX := (Z2.out.below (Below.refl _ _).drew).below hb2
                have HBX := HBV.out.drew.trans (hb2.mono HBV.out.size)

                refine mix_reads_lit [23, 24] 2 (by kernel_rfl) (by kernel_rfl) (by kernel_rfl) (by kernel_rfl) rfl (NearC.of gb) ?_
                simp only [pick, List.filterMap_cons, List.filterMap_nil, List.getElem?_cons_succ, List.getElem?_cons_zero]
                repeat (first | go_big_quiet_step (fail) | quiet_step (fail))
                refine wpQuiet_nil ?_
                obtain ⟨c0, c1, c2, c3, c4⟩ := BX.five
                obtain ⟨f0, f1, f2, f3, f4⟩ := BX.five_free
                refine mix_deed_lit 25 1 (by kernel_rfl) (by kernel_rfl) rfl (fun K hK => ?_)
                simp only [comesUp, List.getElem?_cons_succ, List.getElem?_cons_zero]
                refine if_mk rfl ?_
                go_simp
                refine hK _ _ (fun _ _ => NearC.of (grownBy_set (grownBy_set (grownBy_set (grownBy_set (grownBy_set gb _ _) _ _) _ _) _ _) _ _)) ?_
                clear hK K
                refine mix_flat_lit [26] 0 (by kernel_rfl) (by kernel_rfl) (by kernel_rfl) (by kernel_rfl) rfl ?_
                simp only [pick, List.filterMap_cons, List.filterMap_nil, List.getElem?_cons_succ, List.getElem?_cons_zero]
                repeat (first | go_big_quiet_step (fail) | quiet_step (fail))
                refine wpQuiet_nil ?_
                refine mix_done_lit (by kernel_rfl) ?_
                go_wp2_with fail
                refine bodyPost_ret (v := .tuple #[.agg #[.int .u64 (gen : Int), .int .i64 (numI body 0 4), .int .i64 (numI body 4 4), .int .i64 (numI body 8 4), .int .i64 (numI body 12 4)], .bool false]) (by simp [results, Tryd.results57, go_sem, c0, c1, c2, c3, c4]) rfl ?_
                have hbx := HBX
                exact ⟨by unfold GivesSaid; rw [HNO.out, HSS2.out]; rfl, by go_grown⟩
              | true =>
                have hne : (numI body 16 8 == (gen : Int)) = true := by unfold numI; simp; omega
                have hln : ((body.length : Int) == 24) = true := by simp; omega
                have hkn : (kind == 1) = true := by simp; omega
                have HRB := Lib.hid hrb
                have HNO : Hid (Su.says ⟨kind, id, gen, body⟩ = true) := Lib.hid (by rw [HSY.out, HSL.out, hrb]; simp; try omega)
                clear ha hb24 hk1 hrb
                go_upto_region 12 with (go_at_call 63; (refine (take_num _ body 16 8 _ (HB.out.below HBV.out) (by decide) (by decide) (by omega)).mono ?_); (rintro e w1 ⟨rfl, rfl⟩))
                have a0 := Near.cell (w := V.drew) (row := some (w.heap.size + 1)) (Z8.out.at 0 _ rfl) (by simp <;> omega)
                have a1 := Near.cell (w := V.drew) (row := some (w.heap.size + 1)) (Z8.out.at 1 _ rfl) (by simp <;> omega)
                have a2 := Near.cell (w := V.drew) (row := some (w.heap.size + 1)) (Z8.out.at 2 _ rfl) (by simp <;> omega)
                have a3 := Near.cell (w := V.drew) (row := some (w.heap.size + 1)) (Z8.out.at 3 _ rfl) (by simp <;> omega)
                have a4 := Near.cell (w := V.drew) (row := some (w.heap.size + 1)) (Z8.out.at 4 _ rfl) (by simp <;> omega)
                have b0 := Near.cell (w := V.drew) (row := some (w.heap.size + 1)) (Z1.out.at 0 _ rfl) (by simp <;> omega)
                have b2 := Near.cell (w := V.drew) (row := some (w.heap.size + 1)) (Z1.out.at 2 _ rfl) (by simp <;> omega)
                have b3 := Near.cell (w := V.drew) (row := some (w.heap.size + 1)) (Z1.out.at 3 _ rfl) (by simp <;> omega)
                refine wp_region_mix (fun w' => ∃ x : Near V.drew (some (w.heap.size + 1)), w' = x.world) [] 27 (by kernel_rfl) rfl ?_
                refine mix_reads_lit [0, 1, 2, 3, 4, 5, 6, 7, 8, 9, 10, 11, 12, 13, 14, 15, 16, 17, 18, 19, 20, 21] 5 (by kernel_rfl) (by kernel_rfl) (by kernel_rfl) (by kernel_rfl) rfl (NearC.of (World.grownBy.refl _ _)) ?_
                simp only [pick, List.filterMap_cons, List.filterMap_nil, List.getElem?_cons_succ, List.getElem?_cons_zero]
                repeat (first | go_big_quiet_step (fail) | quiet_step (fail))
                refine wpQuiet_nil ?_
                refine mix_deed_lit 22 4 (by kernel_rfl) (by kernel_rfl) rfl (fun K hK => ?_)
                simp only [comesUp, List.getElem?_cons_succ, List.getElem?_cons_zero]
                refine if_mk rfl ?_
                go_simp
                refine (superCheck_ok ⟨gen, numI body 0 4, numI body 4 4, numI body 8 4, numI body 12 4⟩ HRB.out _ A (HS.out.below HBV.out.drew)).mono ?_
                rintro e w2 ⟨rfl, hb2⟩
                have gb : V.drew.grownBy w2 (some (w.heap.size + 1)) := grown_of_below hb2 (Nat.le_refl _) _
                refine hK _ _ (fun _ _ => NearC.of gb) ?_
                clear hK K
                have BX := (Z2.out.below (Below.refl _ _).drew).below hb2
                have HBX := HBV.out.drew.trans (hb2.mono HBV.out.size)

                refine mix_reads_lit [23, 24] 2 (by kernel_rfl) (by kernel_rfl) (by kernel_rfl) (by kernel_rfl) rfl (NearC.of gb) ?_
                simp only [pick, List.filterMap_cons, List.filterMap_nil, List.getElem?_cons_succ, List.getElem?_cons_zero]
                repeat (first | go_big_quiet_step (fail) | quiet_step (fail))
                refine wpQuiet_nil ?_
                obtain ⟨c0, c1, c2, c3, c4⟩ := BX.five
                obtain ⟨f0, f1, f2, f3, f4⟩ := BX.five_free
                refine mix_deed_lit 25 1 (by kernel_rfl) (by kernel_rfl) rfl (fun K hK => ?_)
                simp only [comesUp, List.getElem?_cons_succ, List.getElem?_cons_zero]
                refine if_mk rfl ?_
                go_simp
                refine hK _ _ (fun _ _ => NearC.of (grownBy_set (grownBy_set (grownBy_set (grownBy_set (grownBy_set gb _ _) _ _) _ _) _ _) _ _)) ?_
                clear hK K
                refine mix_flat_lit [26] 0 (by kernel_rfl) (by kernel_rfl) (by kernel_rfl) (by kernel_rfl) rfl ?_
                simp only [pick, List.filterMap_cons, List.filterMap_nil, List.getElem?_cons_succ, List.getElem?_cons_zero]
                repeat (first | go_big_quiet_step (fail) | quiet_step (fail))
                refine wpQuiet_nil ?_
                refine mix_done_lit (by kernel_rfl) ?_
                go_wp2_with fail
                refine bodyPost_ret (v := .tuple #[.agg #[.int .u64 (gen : Int), .int .i64 (numI body 0 4), .int .i64 (numI body 4 4), .int .i64 (numI body 8 4), .int .i64 (numI body 12 4)], .bool true]) (by simp [results, Tryd.results57, go_sem, c0, c1, c2, c3, c4]) rfl ?_
                have hbx := HBX
                exact ⟨by unfold GivesSaid; rw [HNO.out, HSS2.out]; rfl, by go_grown⟩
            · have hne : (numI body 16 8 == (gen : Int)) = true := by unfold numI; simp; omega
              have hln : ((body.length : Int) == 24) = true := by simp; omega
              have hkn : (kind == 1) = false := by simp; omega
              have HNO : Hid (Su.says ⟨kind, id, gen, body⟩ = false) := Lib.hid (by rw [HSY.out]; simp; omega)
              clear ha hb24 hk1
              go_upto_region 12 with (go_at_call 63; (refine (take_num _ body 16 8 _ (HB.out.below HBV.out) (by decide) (by decide) (by omega)).mono ?_); (rintro e w1 ⟨rfl, rfl⟩))
              have a0 := Near.cell (w := V.drew) (row := some (w.heap.size + 1)) (Z8.out.at 0 _ rfl) (by simp <;> omega)
              have a1 := Near.cell (w := V.drew) (row := some (w.heap.size + 1)) (Z8.out.at 1 _ rfl) (by simp <;> omega)
              have a2 := Near.cell (w := V.drew) (row := some (w.heap.size + 1)) (Z8.out.at 2 _ rfl) (by simp <;> omega)
              have a3 := Near.cell (w := V.drew) (row := some (w.heap.size + 1)) (Z8.out.at 3 _ rfl) (by simp <;> omega)
              have a4 := Near.cell (w := V.drew) (row := some (w.heap.size + 1)) (Z8.out.at 4 _ rfl) (by simp <;> omega)
              have b0 := Near.cell (w := V.drew) (row := some (w.heap.size + 1)) (Z1.out.at 0 _ rfl) (by simp <;> omega)
              have b2 := Near.cell (w := V.drew) (row := some (w.heap.size + 1)) (Z1.out.at 2 _ rfl) (by simp <;> omega)
              have b3 := Near.cell (w := V.drew) (row := some (w.heap.size + 1)) (Z1.out.at 3 _ rfl) (by simp <;> omega)
              refine wp_region_mix (fun w' => ∃ x : Near V.drew (some (w.heap.size + 1)), w' = x.world) [] 27 (by kernel_rfl) rfl ?_
              refine mix_reads_lit [0, 1, 2, 3, 4, 5, 6, 7, 8, 9, 10, 11, 12, 13, 14, 15, 16, 17, 18, 19, 20, 21] 5 (by kernel_rfl) (by kernel_rfl) (by kernel_rfl) (by kernel_rfl) rfl (NearC.of (World.grownBy.refl _ _)) ?_
              simp only [pick, List.filterMap_cons, List.filterMap_nil, List.getElem?_cons_succ, List.getElem?_cons_zero]
              repeat (first | go_big_quiet_step (fail) | quiet_step (fail))
              refine wpQuiet_nil ?_
              refine mix_deed_lit 22 4 (by kernel_rfl) (by kernel_rfl) rfl (fun K hK => ?_)
              simp only [comesUp, List.getElem?_cons_succ, List.getElem?_cons_zero]
              refine if_not_mk (by simp [Region.wanted, yielded]) ?_
              refine hK _ _ (fun _ _ => NearC.of (World.grownBy.refl _ _)) ?_
              clear hK K
              go_simp
              have gb := World.grownBy.refl V.drew (some (w.heap.size + 1))

              refine mix_reads_lit [23, 24] 2 (by kernel_rfl) (by kernel_rfl) (by kernel_rfl) (by kernel_rfl) rfl (NearC.of gb) ?_
              simp only [pick, List.filterMap_cons, List.filterMap_nil, List.getElem?_cons_succ, List.getElem?_cons_zero]
              repeat (first | go_big_quiet_step (fail) | quiet_step (fail))
              refine wpQuiet_nil ?_
              obtain ⟨c0, c1, c2, c3, c4⟩ := Z2.out.five
              obtain ⟨f0, f1, f2, f3, f4⟩ := Z2.out.five_free
              refine mix_deed_lit 25 1 (by kernel_rfl) (by kernel_rfl) rfl (fun K hK => ?_)
              simp only [comesUp, List.getElem?_cons_succ, List.getElem?_cons_zero]
              refine if_mk rfl ?_
              go_simp
              refine hK _ _ (fun _ _ => NearC.of (grownBy_set (grownBy_set (grownBy_set (grownBy_set (grownBy_set gb _ _) _ _) _ _) _ _) _ _)) ?_
              clear hK K
              refine mix_flat_lit [26] 0 (by kernel_rfl) (by kernel_rfl) (by kernel_rfl) (by kernel_rfl) rfl ?_
              simp only [pick, List.filterMap_cons, List.filterMap_nil, List.getElem?_cons_succ, List.getElem?_cons_zero]
              repeat (first | go_big_quiet_step (fail) | quiet_step (fail))
              refine wpQuiet_nil ?_
              refine mix_done_lit (by kernel_rfl) ?_
              go_wp2_with fail
              refine bodyPost_ret (v := .tuple #[.agg #[.int .u64 (gen : Int), .int .i64 (numI body 0 4), .int .i64 (numI body 4 4), .int .i64 (numI body 8 4), .int .i64 (numI body 12 4)], .bool false]) (by simp [results, Tryd.results57, go_sem, c0, c1, c2, c3, c4]) rfl ?_
              have hbx := HBV.out
              exact ⟨by unfold GivesSaid; rw [HNO.out, HSS2.out]; rfl, by go_grown⟩
          · have hne : (numI body 16 8 == (gen : Int)) = true := by unfold numI; simp; omega
            have hln : ((body.length : Int) == 24) = false := by simp; omega
            have HNO : Hid (Su.says ⟨kind, id, gen, body⟩ = false) := Lib.hid (by rw [HSY.out]; simp; omega)
            clear ha hb24
            go_upto_region 12 with (go_at_call 63; (refine (take_num _ body 16 8 _ (HB.out.below HBV.out) (by decide) (by decide) (by omega)).mono ?_); (rintro e w1 ⟨rfl, rfl⟩))
            have a0 := Near.cell (w := V.drew) (row := some (w.heap.size + 1)) (Z8.out.at 0 _ rfl) (by simp <;> omega)
            have a1 := Near.cell (w := V.drew) (row := some (w.heap.size + 1)) (Z8.out.at 1 _ rfl) (by simp <;> omega)
            have a2 := Near.cell (w := V.drew) (row := some (w.heap.size + 1)) (Z8.out.at 2 _ rfl) (by simp <;> omega)
            have a3 := Near.cell (w := V.drew) (row := some (w.heap.size + 1)) (Z8.out.at 3 _ rfl) (by simp <;> omega)
            have a4 := Near.cell (w := V.drew) (row := some (w.heap.size + 1)) (Z8.out.at 4 _ rfl) (by simp <;> omega)
            have b0 := Near.cell (w := V.drew) (row := some (w.heap.size + 1)) (Z1.out.at 0 _ rfl) (by simp <;> omega)
            have b2 := Near.cell (w := V.drew) (row := some (w.heap.size + 1)) (Z1.out.at 2 _ rfl) (by simp <;> omega)
            have b3 := Near.cell (w := V.drew) (row := some (w.heap.size + 1)) (Z1.out.at 3 _ rfl) (by simp <;> omega)
            refine wp_region_mix (fun w' => ∃ x : Near V.drew (some (w.heap.size + 1)), w' = x.world) [] 27 (by kernel_rfl) rfl ?_
            refine mix_reads_lit [0, 1, 2, 3, 4, 5, 6, 7, 8, 9, 10, 11, 12, 13, 14, 15, 16, 17, 18, 19, 20, 21] 5 (by kernel_rfl) (by kernel_rfl) (by kernel_rfl) (by kernel_rfl) rfl (NearC.of (World.grownBy.refl _ _)) ?_
            simp only [pick, List.filterMap_cons, List.filterMap_nil, List.getElem?_cons_succ, List.getElem?_cons_zero]
            repeat (first | go_big_quiet_step (fail) | quiet_step (fail))
            refine wpQuiet_nil ?_
            refine mix_deed_lit 22 4 (by kernel_rfl) (by kernel_rfl) rfl (fun K hK => ?_)
            simp only [comesUp, List.getElem?_cons_succ, List.getElem?_cons_zero]
            refine if_not_mk (by simp [Region.wanted, yielded]) ?_
            refine hK _ _ (fun _ _ => NearC.of (World.grownBy.refl _ _)) ?_
            clear hK K
            go_simp
            have gb := World.grownBy.refl V.drew (some (w.heap.size + 1))

            refine mix_reads_lit [23, 24] 2 (by kernel_rfl) (by kernel_rfl) (by kernel_rfl) (by kernel_rfl) rfl (NearC.of gb) ?_
            simp only [pick, List.filterMap_cons, List.filterMap_nil, List.getElem?_cons_succ, List.getElem?_cons_zero]
            repeat (first | go_big_quiet_step (fail) | quiet_step (fail))
            refine wpQuiet_nil ?_
            obtain ⟨c0, c1, c2, c3, c4⟩ := Z2.out.five
            obtain ⟨f0, f1, f2, f3, f4⟩ := Z2.out.five_free
            refine mix_deed_lit 25 1 (by kernel_rfl) (by kernel_rfl) rfl (fun K hK => ?_)
            simp only [comesUp, List.getElem?_cons_succ, List.getElem?_cons_zero]
            refine if_mk rfl ?_
            go_simp
            refine hK _ _ (fun _ _ => NearC.of (grownBy_set (grownBy_set (grownBy_set (grownBy_set (grownBy_set gb _ _) _ _) _ _) _ _) _ _)) ?_
            clear hK K
            refine mix_flat_lit [26] 0 (by kernel_rfl) (by kernel_rfl) (by kernel_rfl) (by kernel_rfl) rfl ?_
            simp only [pick, List.filterMap_cons, List.filterMap_nil, List.getElem?_cons_succ, List.getElem?_cons_zero]
            repeat (first | go_big_quiet_step (fail) | quiet_step (fail))
            refine wpQuiet_nil ?_
            refine mix_done_lit (by kernel_rfl) ?_
            go_wp2_with fail
            refine bodyPost_ret (v := .tuple #[.agg #[.int .u64 (gen : Int), .int .i64 (numI body 0 4), .int .i64 (numI body 4 4), .int .i64 (numI body 8 4), .int .i64 (numI body 12 4)], .bool false]) (by simp [results, Tryd.results57, go_sem, c0, c1, c2, c3, c4]) rfl ?_
            have hbx := HBV.out
            exact ⟨by unfold GivesSaid; rw [HNO.out, HSS2.out]; rfl, by go_grown⟩
        · have hne : (numI body 16 8 == (gen : Int)) = false := by unfold numI; simp; omega
          have HNO : Hid (Su.says ⟨kind, id, gen, body⟩ = false) := Lib.hid (by rw [HSY.out]; simp; omega)
          clear ha
          go_upto_region 12 with (go_at_call 63; (refine (take_num _ body 16 8 _ (HB.out.below HBV.out) (by decide) (by decide) (by omega)).mono ?_); (rintro e w1 ⟨rfl, rfl⟩))
          have a0 := Near.cell (w := V.drew) (row := some (w.heap.size + 1)) (Z8.out.at 0 _ rfl) (by simp <;> omega)
          have a1 := Near.cell (w := V.drew) (row := some (w.heap.size + 1)) (Z8.out.at 1 _ rfl) (by simp <;> omega)
          have a2 := Near.cell (w := V.drew) (row := some (w.heap.size + 1)) (Z8.out.at 2 _ rfl) (by simp <;> omega)
          have a3 := Near.cell (w := V.drew) (row := some (w.heap.size + 1)) (Z8.out.at 3 _ rfl) (by simp <;> omega)
          have a4 := Near.cell (w := V.drew) (row := some (w.heap.size + 1)) (Z8.out.at 4 _ rfl) (by simp <;> omega)
          have b0 := Near.cell (w := V.drew) (row := some (w.heap.size + 1)) (Z1.out.at 0 _ rfl) (by simp <;> omega)
          have b2 := Near.cell (w := V.drew) (row := some (w.heap.size + 1)) (Z1.out.at 2 _ rfl) (by simp <;> omega)
          have b3 := Near.cell (w := V.drew) (row := some (w.heap.size + 1)) (Z1.out.at 3 _ rfl) (by simp <;> omega)
          refine wp_region_mix (fun w' => ∃ x : Near V.drew (some (w.heap.size + 1)), w' = x.world) [] 27 (by kernel_rfl) rfl ?_
          refine mix_reads_lit [0, 1, 2, 3, 4, 5, 6, 7, 8, 9, 10, 11, 12, 13, 14, 15, 16, 17, 18, 19, 20, 21] 5 (by kernel_rfl) (by kernel_rfl) (by kernel_rfl) (by kernel_rfl) rfl (NearC.of (World.grownBy.refl _ _)) ?_
          simp only [pick, List.filterMap_cons, List.filterMap_nil, List.getElem?_cons_succ, List.getElem?_cons_zero]
          repeat (first | go_big_quiet_step (fail) | quiet_step (fail))
          refine wpQuiet_nil ?_
          refine mix_deed_lit 22 4 (by kernel_rfl) (by kernel_rfl) rfl (fun K hK => ?_)
          simp only [comesUp, List.getElem?_cons_succ, List.getElem?_cons_zero]
          refine if_not_mk (by simp [Region.wanted, yielded]) ?_
          refine hK _ _ (fun _ _ => NearC.of (World.grownBy.refl _ _)) ?_
          clear hK K
          go_simp
          have gb := World.grownBy.refl V.drew (some (w.heap.size + 1))

          refine mix_reads_lit [23, 24] 2 (by kernel_rfl) (by kernel_rfl) (by kernel_rfl) (by kernel_rfl) rfl (NearC.of gb) ?_
          simp only [pick, List.filterMap_cons, List.filterMap_nil, List.getElem?_cons_succ, List.getElem?_cons_zero]
          repeat (first | go_big_quiet_step (fail) | quiet_step (fail))
          refine wpQuiet_nil ?_
          obtain ⟨c0, c1, c2, c3, c4⟩ := Z2.out.five
          obtain ⟨f0, f1, f2, f3, f4⟩ := Z2.out.five_free
          refine mix_deed_lit 25 1 (by kernel_rfl) (by kernel_rfl) rfl (fun K hK => ?_)
          simp only [comesUp, List.getElem?_cons_succ, List.getElem?_cons_zero]
          refine if_mk rfl ?_
          go_simp
          refine hK _ _ (fun _ _ => NearC.of (grownBy_set (grownBy_set (grownBy_set (grownBy_set (grownBy_set gb _ _) _ _) _ _) _ _) _ _)) ?_
          clear hK K
          refine mix_flat_lit [26] 0 (by kernel_rfl) (by kernel_rfl) (by kernel_rfl) (by kernel_rfl) rfl ?_
          simp only [pick, List.filterMap_cons, List.filterMap_nil, List.getElem?_cons_succ, List.getElem?_cons_zero]
          repeat (first | go_big_quiet_step (fail) | quiet_step (fail))
          refine wpQuiet_nil ?_
          refine mix_done_lit (by kernel_rfl) ?_
          go_wp2_with fail
          refine bodyPost_ret (v := .tuple #[.agg #[.int .u64 (gen : Int), .int .i64 (numI body 0 4), .int .i64 (numI body 4 4), .int .i64 (numI body 8 4), .int .i64 (numI body 12 4)], .bool false]) (by simp [results, Tryd.results57, go_sem, c0, c1, c2, c3, c4]) rfl ?_
          have hbx := HBV.out
          exact ⟨by unfold GivesSaid; rw [HNO.out, HSS2.out]; rfl, by go_grown⟩
      · have HNO : Hid (Su.says ⟨kind, id, gen, body⟩ = false) := Lib.hid (by rw [HSY.out]; simp; omega)
        go_upto_region 12 with (go_at_call 63; (refine (take_short _ body 16 8 _ A (HS.out.below HBV.out) (HB.out.below HBV.out) (by decide) (by decide) (by omega) (by omega)).mono ?_); (rintro e w1 ⟨⟨t, x, rfl⟩, hb1⟩); (have V1 := Lib.hid (Z1.out.below hb1)); (have V2 := Lib.hid (Z2.out.below hb1)); (have V8 := Lib.hid (Z8.out.below hb1)); (have HB1 := Lib.hid (below_step HBV.out hb1)); (have hs1 := hb1.size); (clear hb1))
        have a0 := Near.cell (w := w1.drew) (row := some (w.heap.size + 1)) (V8.out.at 0 _ rfl) (by simp <;> omega)
        have a1 := Near.cell (w := w1.drew) (row := some (w.heap.size + 1)) (V8.out.at 1 _ rfl) (by simp <;> omega)
        have a2 := Near.cell (w := w1.drew) (row := some (w.heap.size + 1)) (V8.out.at 2 _ rfl) (by simp <;> omega)
        have a3 := Near.cell (w := w1.drew) (row := some (w.heap.size + 1)) (V8.out.at 3 _ rfl) (by simp <;> omega)
        have a4 := Near.cell (w := w1.drew) (row := some (w.heap.size + 1)) (V8.out.at 4 _ rfl) (by simp <;> omega)
        have b0 := Near.cell (w := w1.drew) (row := some (w.heap.size + 1)) (V1.out.at 0 _ rfl) (by simp <;> omega)
        have b2 := Near.cell (w := w1.drew) (row := some (w.heap.size + 1)) (V1.out.at 2 _ rfl) (by simp <;> omega)
        have b3 := Near.cell (w := w1.drew) (row := some (w.heap.size + 1)) (V1.out.at 3 _ rfl) (by simp <;> omega)
        refine wp_region_mix (fun w' => ∃ x : Near w1.drew (some (w.heap.size + 1)), w' = x.world) [] 27 (by kernel_rfl) rfl ?_
        refine mix_reads_lit [0, 1, 2, 3, 4, 5, 6, 7, 8, 9, 10, 11, 12, 13, 14, 15, 16, 17, 18, 19, 20, 21] 5 (by kernel_rfl) (by kernel_rfl) (by kernel_rfl) (by kernel_rfl) rfl (NearC.of (World.grownBy.refl _ _)) ?_
        simp only [pick, List.filterMap_cons, List.filterMap_nil, List.getElem?_cons_succ, List.getElem?_cons_zero]
        repeat (first | go_big_quiet_step (fail) | quiet_step (fail))
        refine wpQuiet_nil ?_
        refine mix_deed_lit 22 4 (by kernel_rfl) (by kernel_rfl) rfl (fun K hK => ?_)
        simp only [comesUp, List.getElem?_cons_succ, List.getElem?_cons_zero]
        refine if_not_mk (by simp [Region.wanted, yielded]) ?_
        refine hK _ _ (fun _ _ => NearC.of (World.grownBy.refl _ _)) ?_
        clear hK K
        go_simp
        have gb := World.grownBy.refl w1.drew (some (w.heap.size + 1))

        refine mix_reads_lit [23, 24] 2 (by kernel_rfl) (by kernel_rfl) (by kernel_rfl) (by kernel_rfl) rfl (NearC.of gb) ?_
        simp only [pick, List.filterMap_cons, List.filterMap_nil, List.getElem?_cons_succ, List.getElem?_cons_zero]
        repeat (first | go_big_quiet_step (fail) | quiet_step (fail))
        refine wpQuiet_nil ?_
        obtain ⟨c0, c1, c2, c3, c4⟩ := V2.out.five
        obtain ⟨f0, f1, f2, f3, f4⟩ := V2.out.five_free
        refine mix_deed_lit 25 1 (by kernel_rfl) (by kernel_rfl) rfl (fun K hK => ?_)
        simp only [comesUp, List.getElem?_cons_succ, List.getElem?_cons_zero]
        refine if_mk rfl ?_
        go_simp
        refine hK _ _ (fun _ _ => NearC.of (grownBy_set (grownBy_set (grownBy_set (grownBy_set (grownBy_set gb _ _) _ _) _ _) _ _) _ _)) ?_
        clear hK K
        refine mix_flat_lit [26] 0 (by kernel_rfl) (by kernel_rfl) (by kernel_rfl) (by kernel_rfl) rfl ?_
        simp only [pick, List.filterMap_cons, List.filterMap_nil, List.getElem?_cons_succ, List.getElem?_cons_zero]
        repeat (first | go_big_quiet_step (fail) | quiet_step (fail))
        refine wpQuiet_nil ?_
        refine mix_done_lit (by kernel_rfl) ?_
        go_wp2_with fail
        refine bodyPost_ret (v := .tuple #[.agg #[.int .u64 (gen : Int), .int .i64 (numI body 0 4), .int .i64 (numI body 4 4), .int .i64 (numI body 8 4), .int .i64 (numI body 12 4)], .bool false]) (by simp [results, Tryd.results57, go_sem, c0, c1, c2, c3, c4]) rfl ?_
        have hbx := HB1.out
        exact ⟨by unfold GivesSaid; rw [HNO.out, HSS2.out]; rfl, by go_grown⟩

    · rcases (show j = 0 ∨ j = 1 ∨ j = 2 ∨ j = 3 by omega) with rfl | rfl | rfl | rfl
      · obtain ⟨m0, m1, m2, m3⟩ := Y1.out.four
        obtain ⟨n0, n1, n2, n3⟩ := BoxAt.four (show BoxAt wr (w.heap.size + 1 + 1) (arrL body 0) from Y3.out)
        obtain ⟨f0, f1, f2, f3⟩ := BoxAt.four_free (show BoxAt wr (w.heap.size + 1 + 1) (arrL body 0) from Y3.out)
        by_cases hl4 : 0 + 4 ≤ body.length
        · have uu := U0.out
          go_wp2_with (go_at_call 63; refine (take_num _ body 0 4 _ (HB.out.below HBR.out) (by decide) (by decide) (by omega)).mono ?_; rintro e w1 ⟨rfl, rfl⟩)
          go_roundw
          case rel => exact ⟨1, by omega, rfl, by omega, Y3.out.put 0 _, grownBy_set HGR.out _ _⟩
          case measure => simp [intOf]
        · have HNO : Hid (Su.says ⟨kind, id, gen, body⟩ = false ∧ saidS ⟨kind, id, gen, body⟩ = Su.zero) := Lib.hid ⟨by rw [HSY.out]; simp; omega, by rw [HSS.out, if_pos (by omega)]⟩
          obtain ⟨q0, q1, q2, q3, q4⟩ := Y2.out.five
          go_wp2_with (go_at_call 63; (refine (take_short _ body 0 4 _ A (HS.out.below HBR.out) (HB.out.below HBR.out) (by decide) (by decide) (by omega) (by omega)).mono ?_); (rintro e w1 ⟨⟨t, x, rfl⟩, hb1⟩); (have HB1 := Lib.hid (below_step HBR.out hb1)); (obtain ⟨z0, z1, z2, z3, z4⟩ := (Y2.out.below hb1).five); (obtain ⟨zf0, zf1, zf2, zf3, zf4⟩ := (Y2.out.below hb1).five_free); (clear hb1))
          refine bodyPost_ret (v := .tuple #[.agg #[.int .u64 0, .int .i64 0, .int .i64 0, .int .i64 0, .int .i64 0], .bool false]) (by simp [results, Tryd.results57, go_sem, z0, z1, z2, z3, z4]) rfl ?_
          have := HB1.out
          exact ⟨by unfold GivesSaid; rw [HNO.out.1, HNO.out.2]; rfl, by go_grown⟩
      · obtain ⟨m0, m1, m2, m3⟩ := Y1.out.four
        obtain ⟨n0, n1, n2, n3⟩ := BoxAt.four (show BoxAt wr (w.heap.size + 1 + 1) (arrL body 1) from Y3.out)
        obtain ⟨f0, f1, f2, f3⟩ := BoxAt.four_free (show BoxAt wr (w.heap.size + 1 + 1) (arrL body 1) from Y3.out)
        by_cases hl4 : 4 + 4 ≤ body.length
        · have uu := U1.out
          go_wp2_with (go_at_call 63; refine (take_num _ body 4 4 _ (HB.out.below HBR.out) (by decide) (by decide) (by omega)).mono ?_; rintro e w1 ⟨rfl, rfl⟩)
          go_roundw
          case rel => exact ⟨2, by omega, rfl, by omega, Y3.out.put 1 _, grownBy_set HGR.out _ _⟩
          case measure => simp [intOf]
        · have HNO : Hid (Su.says ⟨kind, id, gen, body⟩ = false ∧ saidS ⟨kind, id, gen, body⟩ = Su.zero) := Lib.hid ⟨by rw [HSY.out]; simp; omega, by rw [HSS.out, if_pos (by omega)]⟩
          obtain ⟨q0, q1, q2, q3, q4⟩ := Y2.out.five
          go_wp2_with (go_at_call 63; (refine (take_short _ body 4 4 _ A (HS.out.below HBR.out) (HB.out.below HBR.out) (by decide) (by decide) (by omega) (by omega)).mono ?_); (rintro e w1 ⟨⟨t, x, rfl⟩, hb1⟩); (have HB1 := Lib.hid (below_step HBR.out hb1)); (obtain ⟨z0, z1, z2, z3, z4⟩ := (Y2.out.below hb1).five); (obtain ⟨zf0, zf1, zf2, zf3, zf4⟩ := (Y2.out.below hb1).five_free); (clear hb1))
          refine bodyPost_ret (v := .tuple #[.agg #[.int .u64 0, .int .i64 0, .int .i64 0, .int .i64 0, .int .i64 0], .bool false]) (by simp [results, Tryd.results57, go_sem, z0, z1, z2, z3, z4]) rfl ?_
          have := HB1.out
          exact ⟨by unfold GivesSaid; rw [HNO.out.1, HNO.out.2]; rfl, by go_grown⟩
      · obtain ⟨m0, m1, m2, m3⟩ := Y1.out.four
        obtain ⟨n0, n1, n2, n3⟩ := BoxAt.four (show BoxAt wr (w.heap.size + 1 + 1) (arrL body 2) from Y3.out)
        obtain ⟨f0, f1, f2, f3⟩ := BoxAt.four_free (show BoxAt wr (w.heap.size + 1 + 1) (arrL body 2) from Y3.out)
        by_cases hl4 : 8 + 4 ≤ body.length
        · have uu := U2.out
          go_wp2_with (go_at_call 63; refine (take_num _ body 8 4 _ (HB.out.below HBR.out) (by decide) (by decide) (by omega)).mono ?_; rintro e w1 ⟨rfl, rfl⟩)
          go_roundw
          case rel => exact ⟨3, by omega, rfl, by omega, Y3.out.put 2 _, grownBy_set HGR.out _ _⟩
          case measure => simp [intOf]
        · have HNO : Hid (Su.says ⟨kind, id, gen, body⟩ = false ∧ saidS ⟨kind, id, gen, body⟩ = Su.zero) := Lib.hid ⟨by rw [HSY.out]; simp; omega, by rw [HSS.out, if_pos (by omega)]⟩
          obtain ⟨q0, q1, q2, q3, q4⟩ := Y2.out.five
          go_wp2_with (go_at_call 63; (refine (take_short _ body 8 4 _ A (HS.out.below HBR.out) (HB.out.below HBR.out) (by decide) (by decide) (by omega) (by omega)).mono ?_); (rintro e w1 ⟨⟨t, x, rfl⟩, hb1⟩); (have HB1 := Lib.hid (below_step HBR.out hb1)); (obtain ⟨z0, z1, z2, z3, z4⟩ := (Y2.out.below hb1).five); (obtain ⟨zf0, zf1, zf2, zf3, zf4⟩ := (Y2.out.below hb1).five_free); (clear hb1))
          refine bodyPost_ret (v := .tuple #[.agg #[.int .u64 0, .int .i64 0, .int .i64 0, .int .i64 0, .int .i64 0], .bool false]) (by simp [results, Tryd.results57, go_sem, z0, z1, z2, z3, z4]) rfl ?_
          have := HB1.out
          exact ⟨by unfold GivesSaid; rw [HNO.out.1, HNO.out.2]; rfl, by go_grown⟩
      · obtain ⟨m0, m1, m2, m3⟩ := Y1.out.four
        obtain ⟨n0, n1, n2, n3⟩ := BoxAt.four (show BoxAt wr (w.heap.size + 1 + 1) (arrL body 3) from Y3.out)
        obtain ⟨f0, f1, f2, f3⟩ := BoxAt.four_free (show BoxAt wr (w.heap.size + 1 + 1) (arrL body 3) from Y3.out)
        by_cases hl4 : 12 + 4 ≤ body.length
        · have uu := U3.out
          go_wp2_with (go_at_call 63; refine (take_num _ body 12 4 _ (HB.out.below HBR.out) (by decide) (by decide) (by omega)).mono ?_; rintro e w1 ⟨rfl, rfl⟩)
          go_roundw
          case rel => exact ⟨4, by omega, rfl, by omega, Y3.out.put 3 _, grownBy_set HGR.out _ _⟩
          case measure => simp [intOf]
        · have HNO : Hid (Su.says ⟨kind, id, gen, body⟩ = false ∧ saidS ⟨kind, id, gen, body⟩ = Su.zero) := Lib.hid ⟨by rw [HSY.out]; simp; omega, by rw [HSS.out, if_pos (by omega)]⟩
          obtain ⟨q0, q1, q2, q3, q4⟩ := Y2.out.five
          go_wp2_with (go_at_call 63; (refine (take_short _ body 12 4 _ A (HS.out.below HBR.out) (HB.out.below HBR.out) (by decide) (by decide) (by omega) (by omega)).mono ?_); (rintro e w1 ⟨⟨t, x, rfl⟩, hb1⟩); (have HB1 := Lib.hid (below_step HBR.out hb1)); (obtain ⟨z0, z1, z2, z3, z4⟩ := (Y2.out.below hb1).five); (obtain ⟨zf0, zf1, zf2, zf3, zf4⟩ := (Y2.out.below hb1).five_free); (clear hb1))
          refine bodyPost_ret (v := .tuple #[.agg #[.int .u64 0, .int .i64 0, .int .i64 0, .int .i64 0, .int .i64 0], .bool false]) (by simp [results, Tryd.results57, go_sem, z0, z1, z2, z3, z4]) rfl ?_
          have := HB1.out
          exact ⟨by unfold GivesSaid; rw [HNO.out.1, HNO.out.2]; rfl, by go_grown⟩
end Go.Proofs.YtaofhdoieffhhaaDoor
