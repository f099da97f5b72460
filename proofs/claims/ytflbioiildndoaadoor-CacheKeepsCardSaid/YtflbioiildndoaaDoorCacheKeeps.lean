/- the statements of caches: CacheKeeps (printed by wip/tools/gen_cachekeeps.py) -/
import Derived.Test.YtflbioiildndoaaDoorCacheA
namespace Go.Proofs.YtflbioiildndoaaDoor
open Go.RowKit
set_option linter.unusedVariables false
set_option linter.unusedSimpArgs false

theorem ownsRow_on {w w' : World} {base : Nat} {e : TypeId} {size : Nat} {v : Value} {n : Nat} {xs : List Value} (h : w.ownsRow base e size v n xs) (hb : ∀ k, v.ownBlock = some k → w'.heap[k]? = w.heap[k]?) : w'.ownsRow base e size v n xs := by
  refine ⟨h.1, ?_⟩
  rcases h.2 with hn | ⟨g, cap, cur, rfl, h1, h2, h3⟩
  · exact .inl hn
  · exact .inr ⟨g, cap, cur, rfl, h1, (hb g rfl).trans h2, h3⟩
theorem OwnI.beside {U : Nat → Prop} {w w' : World} {base : Nat} {v : Value} {l : List Int} (h : OwnI w base v l) (hb : Beside U w w') (hn : ∀ k, v.ownBlock = some k → ¬ U k) : OwnI w' base v l :=
  ownsRow_on h fun k hk => hb.block k (h.lt k hk).2 (hn k hk)
theorem Ch.Keep.mono {n m s : Nat} {L : List UInt8} {c : Ch.Cache} (h : Ch.Keep n L s c) (hm : n ≤ m) : Ch.Keep m L s c := ⟨h.good.mono hm, h.len, h.none, h.row, h.many⟩
theorem byte_wrap (f : UInt8) : wrap64 (f.toNat : Int) = (f.toNat : Int) ∧ IntKind.i64.wrap (f.toNat : Int) = (f.toNat : Int) ∧ ((f.toNat : Int) != (f.toNat : Int)) = false := by
  have h := f.toNat_lt
  have e : IntKind.i64.wrap (f.toNat : Int) = (f.toNat : Int) := by rw [IntKind.wrap_i64]; omega
  exact ⟨by rw [wrap64_is]; exact e, e, by simp⟩
/-- what was put last, behind the first k of the six stores -/
def keepInit (k : Nat) : List Int := (List.range 12).map fun i => if 2 ≤ i ∧ i < k + 2 then (i : Int) else 0
theorem keepInit_step : ∀ k, k < 6 → keepInit (k + 1) = (keepInit k).set (k + 2) ((k : Int) + 2) := by decide
theorem keepInit_end : keepInit 6 = ([0, 0, 2, 3, 4, 5, 6, 7, 0, 0, 0, 0] : List UInt8).map fun x => (x.toNat : Int) := by decide
theorem keepInit_len (k : Nat) : (keepInit k).length = 12 := by unfold keepInit; rw [List.length_map, List.length_range]

set_option maxRecDepth 100000 in
set_option maxHeartbeats 8000000 in
theorem cacheKeeps_walk {S : Nat → Prop} [Has S 1] [Has S 2] [Has S 3] [Has S 5] [Has S 7] (n : Int) (lv : Value) (l : List CCall) (w : World) (A : Nat → Addr) (hs : SentsOn S w A) (hl : RowAt eCC w lv l) :
    Calls Tryd.prog 9 #[.int .i64 n, lv] w fun e w' => e = .returned (.bool true) ∧ Below w.heap.size w w' := by
  obtain ⟨M, hM⟩ : ∃ M, Ch.madeD 6 = M := ⟨_, rfl⟩
  obtain ⟨s, hsn⟩ : ∃ s, slotsN n = s := ⟨_, rfl⟩
  have hsb : 3 ≤ s ∧ s ≤ 6 := by rw [← hsn]; exact slotsN_bd n
  have hk0 := Ch.Keep.new (Ch.madeD_ok (Nat.le_refl 6)) hsb
  rw [hM] at hk0
  have HK0 := Lib.hid hk0
  have HS := Lib.hid hs
  have HM := Lib.hid hM
  have HSN := Lib.hid hsn
  have HL := Lib.hid hl
  obtain ⟨aa, ac, rfl, -, -, -⟩ := id hl
  clear hs hM hk0 hsn hl
  go_enter Tryd.func9, Tryd.ntmps9
  go_upto_region 2 with (first
    | (go_at_call 36; (refine (made08_is (s : Int) s rfl (by omega) M HM.out w A HS.out).mono ?_); (rintro e w1 ⟨⟨c, dp, rg, rc, U, rfl, hC, hge⟩, hb1⟩); (have HC := Lib.hid hC); (have HGE := Lib.hid hge); (have HB1 := Lib.hid hb1); (clear hC hge hb1))
    | (go_at_call 37; (refine (slots08_is n s HSN.out _).mono ?_); (rintro e w0 ⟨rfl, rfl⟩)))
  have hs1 : w.heap.size ≤ w1.heap.size := HB1.out.size
  go_upto_region 4 with fail
  obtain ⟨lb, hlb⟩ : ∃ lb, w1.heap.size = lb := ⟨_, rfl⟩
  have HLB := Lib.hid hlb
  clear hlb
  go_wp2_with (at_make; refine wpList_make_ints rfl _ _ rfl 12 _ _ rfl rfl (by omega) (by omega) (by omega) ?_)
  intro w2 ho2 hg2
  have HT2 := Lib.hid (show OwnI w2 w.heap.size (.slice (some ⟨lb, 0, none⟩) 12 12) (keepInit 0) by
    have h := ho2.mono (b2 := w.heap.size) (by have := HLB.out; omega)
    rw [HLB.out] at h
    exact h)
  have hb2 : Below w1.heap.size w1 w2 := (Below.refl _ _).grown hg2 (Nat.le_refl _) (by intro k hk; cases hk)
  have HB2 := Lib.hid (below_step HB1.out hb2)
  have HC2 := Lib.hid (HC.out.below hb2)
  have HNU := Lib.hid (show ¬ U lb from fun h => by have := HC.out.held lb h; have := HLB.out; omega)
  clear ho2 hg2 hb2
  rw [HLB.out]
  go_wp2_with fail
  go_loopw [8] (fun i wr => ∃ k : Nat, k ≤ 6 ∧ i = .int .i64 ((k : Int) + 2) ∧ CIn U wr c dp rg rc (Ch.new M s) ∧ OwnI wr w.heap.size (.slice (some ⟨lb, 0, none⟩) 12 12) (keepInit k) ∧ Below w.heap.size w wr) (fun i _ => 8 - (intOf i).toNat)
  case atStart => exact ⟨0, by omega, rfl, HC2.out, HT2.out, HB2.out⟩
  case round =>
    obtain ⟨k, hk, rfl, hc, ht, hb⟩ := hrel
    have HCR := Lib.hid hc
    have HTR := Lib.hid ht
    have HBR := Lib.hid hb
    clear hc ht hb
    have hlb2 := (HTR.out.lt lb rfl)
    by_cases hlt : k < 6
    · have hlt1 : (k : Int) + 2 < 8 := by omega
      have h12 : (k : Int) + 2 < 12 := by omega
      have htn : ((k : Int) + 2).toNat = k + 2 := by omega
      have hw3 : IntKind.i64.wrap ((k : Int) + 2 + 1) = (k : Int) + 1 + 2 := by rw [IntKind.wrap_i64]; omega
      obtain ⟨x, hx⟩ := getElem?_some_of_lt (l := keepInit k) (k := k + 2) (by rw [keepInit_len]; omega)
      have hcell := HTR.out.cell (keepInit_len k).symm hx
      have hfree := HTR.out.free (keepInit_len k).symm (k + 2)
      have HTS := Lib.hid (show OwnI (wr.setCell ⟨lb, k + 2, none⟩ (.int .i64 ((k : Int) + 2))) w.heap.size (.slice (some ⟨lb, 0, none⟩) 12 12) (keepInit (k + 1)) by rw [keepInit_step k hlt]; exact HTR.out.set (keepInit_len k).symm (k + 2) ((k : Int) + 2))
      have HCS := Lib.hid (HCR.out.keep (grownBy_set (World.grownBy.refl wr (some lb)) (k + 2) (.int .i64 ((k : Int) + 2))) HNU.out)
      have HBS := Lib.hid (HBR.out.setCell (p := ⟨lb, k + 2, none⟩) (show w.heap.size ≤ lb from hlb2.1) (.int .i64 ((k : Int) + 2)))
      clear hx
      go_wp2_with fail
      go_roundw
      case rel => exact ⟨k + 1, by omega, by go_num, HCS.out, HTS.out, HBS.out⟩
      case measure => simp [intOf]; omega
    · obtain rfl : k = 6 := by omega
      have HT6 := Lib.hid (show OwnI wr w.heap.size (.slice (some ⟨lb, 0, none⟩) 12 12) (([0, 0, 2, 3, 4, 5, 6, 7, 0, 0, 0, 0] : List UInt8).map fun x => (x.toNat : Int)) by rw [← keepInit_end]; exact HTR.out)
      go_wp2_with fail
      go_loopw [9] (fun i wr => ∃ (k : Nat) (L : List UInt8) (C : Ch.Cache) (U' : Nat → Prop), k ≤ l.length ∧ k ≤ 60 ∧ i = .int .i64 (k : Int) ∧ Ch.Keep (6 + 2 * k) L s C ∧ CIn U' wr c dp rg rc C ∧ (∀ j, U' j → w.heap.size ≤ j) ∧ ¬ U' lb ∧ OwnI wr w.heap.size (.slice (some ⟨lb, 0, none⟩) 12 12) (L.map fun x => (x.toNat : Int)) ∧ Below w.heap.size w wr) (fun i _ => 60 - (intOf i).toNat)
      case atStart => exact ⟨0, _, _, U, by omega, by omega, rfl, HK0.out, HCR.out, HGE.out, HNU.out, HT6.out, HBR.out⟩
      case round =>
        clear HCR HTR HBR HT6 HC2 HT2 HB2 hlb2
        obtain ⟨k, L, C, U', hk, hk6, rfl, hkp, hc, hge, hn, ht, hb⟩ := hrel
        have HK := Lib.hid hkp
        have HC := Lib.hid hc
        have HU' := Lib.hid hge
        have HN' := Lib.hid hn
        have HT := Lib.hid ht
        have HBR := Lib.hid hb
        clear hkp hc hge hn ht hb hlt
        by_cases hlt : k < l.length
        · have hlt1 : (k : Int) < (l.length : Int) := by omega
          by_cases h60 : k < 60
          · have h601 : (k : Int) < 60 := by omega
            have hsr : w.heap.size ≤ wr.heap.size := HBR.out.size
            obtain ⟨a, ha⟩ := getElem?_some_of_lt hlt
            have HA := Lib.hid ha
            have hrow := HL.out.below HBR.out
            obtain ⟨b, o, rfl⟩ : ∃ b o, aa = some ⟨b, o, none⟩ := by
              obtain ⟨x, cc, hv, -, -, h3⟩ := hrow
              rcases h3 with h3 | ⟨b, o, rfl, -⟩
              · rw [h3] at hlt; exact absurd hlt (by simp)
              · injection hv with hv; exact ⟨b, o, hv⟩
            obtain ⟨c0, c1, c2, c3⟩ := hrow.call ha
            obtain ⟨j, hj⟩ : ∃ j : Nat, 2 + (a.id % 18446744073709551616 % 6) = (j : Int) := ⟨(2 + (a.id % 18446744073709551616 % 6)).toNat, by omega⟩
            have hj2 : 2 ≤ j ∧ j ≤ 7 := by omega
            have hm1 := mod_spell8 a.id 6 (by decide) (by decide)
            obtain ⟨r, hr⟩ : ∃ r : Int, a.id % 18446744073709551616 % 6 = r := ⟨_, rfl⟩
            rw [hr] at hm1 hj
            have hr2 : r = (j : Int) - 2 := by omega
            subst hr2
            have hm2 : IntKind.i64.wrap (2 + ((j : Int) - 2)) = (j : Int) := by rw [IntKind.wrap_i64]; omega
            have hj12 : (j : Int) < 12 := by omega
            clear hr hj ha hrow
            by_cases hkd : a.kind.tmod 2 = 1
            · have hkb : (a.kind.tmod 2 == 1) = true := by rw [hkd]; rfl
              obtain ⟨C1, e1, k1⟩ := HK.out.put (id := (j : Int)) (by omega) (by omega) a.fill
              rw [Int.toNat_natCast] at k1
              have HE1 := Lib.hid e1
              have HK3 := Lib.hid k1
              clear e1 k1 hkd
              go_upto_region 16 with (first
                | (go_at_call 38; (refine (cputLeaf_is (HC.out.below HBL.out) HK.out.good.ok (by omega) (j : Int) a.fill _ _ HOL.out (fresh8 HC.out.held hg1 hg2) HE1.out A (fun wx hx => HS.out.below ((below_step HBR.out HBL.out).trans (hx.below HU'.out (by have := HBL.out.size; omega))))).mono ?_); (rintro e w5 ⟨l5, v5, rfl, hE5, hC5, hB5⟩); (obtain ⟨rfl, rfl⟩ := hE5.isNil); (have HC5 := Lib.hid hC5); (have HB5 := Lib.hid hB5); (clear hE5 hC5 hB5))
                | (go_at_call 39; (refine (leaf08_is (j : Int) a.fill _ rfl _).mono ?_); (rintro e w4 ⟨⟨g4, rfl, hg1, hg2, ho4, -⟩, hb4⟩); (have HOL := Lib.hid ho4); (have HBL := Lib.hid hb4); (clear ho4 hb4)))
              have hs4 : wr.heap.size ≤ w4.heap.size := HBL.out.size
              have hs5 : w4.heap.size ≤ w5.heap.size := HB5.out.size
              have hlbr := HT.out.lt lb rfl
              have HBW5 := Lib.hid ((below_step HBR.out HBL.out).trans (HB5.out.below HU'.out (by omega)))
              have HT5 := Lib.hid ((HT.out.below HBL.out (Nat.le_refl _)).beside HB5.out (fun k hk => by obtain rfl : lb = k := Option.some.inj hk; exact HN'.out))
              have HU5 := Lib.hid (show ∀ k, More U' w4 w5 k → w.heap.size ≤ k from fun k hk => hk.elim (HU'.out k) fun h => by omega)
              have HN5 := Lib.hid (show ¬ More U' w4 w5 lb from fun h => h.elim HN'.out fun h => by omega)
              have hrw := (HL.out.below HBW5.out).call HA.out
              obtain ⟨y0, y1, y2, y3⟩ := hrw
              have hll : (L.map fun x => (x.toNat : Int)).length = 12 := by rw [List.length_map]; exact HK.out.row
              obtain ⟨x, hx⟩ := getElem?_some_of_lt (l := L.map fun x => (x.toNat : Int)) (k := j) (by rw [hll]; omega)
              have hcell := HT5.out.cell hll.symm hx
              have hfree := HT5.out.free hll.symm j
              have HT3' := Lib.hid (show OwnI (w5.setCell ⟨lb, j, none⟩ (.int .i64 (a.fill.toNat : Int))) w.heap.size (.slice (some ⟨lb, 0, none⟩) 12 12) ((L.set j a.fill).map fun x => (x.toNat : Int)) by rw [List.map_set]; exact HT5.out.set hll.symm j (a.fill.toNat : Int))
              have HC3' := Lib.hid (HC5.out.keep (grownBy_set (World.grownBy.refl w5 (some lb)) j (.int .i64 (a.fill.toNat : Int))) HN5.out)
              have HB3' := Lib.hid (HBW5.out.setCell (p := ⟨lb, j, none⟩) (show w.heap.size ≤ lb from hlbr.1) (.int .i64 (a.fill.toNat : Int)))
              have hwf := (byte_wrap a.fill).2.1
              clear hx hll c0 c1 c2 c3 hm1 hm2 hkb
              generalize hL3 : L.set j a.fill = L3 at *
              go_upto_region 17 with fail
              refine wp_name fun w3 hW3 => ?_
              have HC3 := Lib.hid (show CIn (More U' w4 w5) w3 c dp rg rc C1 by rw [hW3]; exact HC3'.out)
              have HT3 := Lib.hid (show OwnI w3 w.heap.size (.slice (some ⟨lb, 0, none⟩) 12 12) (L3.map fun x => (x.toNat : Int)) by rw [hW3]; exact HT3'.out)
              have HB3 := Lib.hid (show Below w.heap.size w w3 by rw [hW3]; exact HB3'.out)
              have HU3 := HU5
              have HN3 := HN5
              clear hW3 HC3' HT3' HB3' y0 y1 y2 y3 hcell hfree hL3 HC5 HT5 HBW5
              generalize More U' w4 w5 = U3 at *
              generalize C1 = C3 at *
              have hs3 : w.heap.size ≤ w3.heap.size := HB3.out.size
              obtain ⟨C4, e4, k4⟩ := HK3.out.get (id := (j : Int)) (by omega) (by omega)
              obtain ⟨f, hf⟩ : ∃ f, L3.getD j 0 = f := ⟨_, rfl⟩
              have HE4 := Lib.hid (show Ch.get C3 (j : Int) = (C4, Ch.leafP (j : Int) f, 0) by rw [e4]; unfold Ch.viewL; rw [Int.toNat_natCast, hf])
              have HK4 := Lib.hid k4
              have HLJ := Lib.hid (show (L3.map fun x => (x.toNat : Int))[j]? = some (f.toNat : Int) by
                have hl := HK3.out.row
                rw [List.getElem?_map, List.getElem?_eq_getElem (by omega), ← hf, List.getD_eq_getElem?_getD, List.getElem?_eq_getElem (by omega)]; rfl)
              obtain ⟨HL, hHL⟩ : ∃ HL, Ch.held C4 = HL := ⟨_, rfl⟩
              have HHL := Lib.hid hHL
              have hle : (HL.length : Int) ≤ (s : Int) := by have := k4.held; rw [hHL] at this; omega
              clear e4 k4 hf hHL
              go_upto_region 18 with (go_at_call 40; (refine (cgetLeaf_is HC3.out HK3.out.good.ok (by omega) (j : Int) (j : Int) f HE4.out A (fun wx hx => HS.out.below (HB3.out.trans (hx.below HU3.out hs3)))).mono ?_); (rintro e w4 ⟨g4, c4, rfl, hO4, hC4, hB4⟩); (have HO4 := Lib.hid hO4); (have HC4 := Lib.hid hC4); (have HB4 := Lib.hid hB4); (clear hO4 hC4 hB4))
              have hs4 : w3.heap.size ≤ w4.heap.size := HB4.out.size
              obtain ⟨nb, hnb⟩ : ∃ nb, w4.heap.size = nb := ⟨_, rfl⟩
              refine wp_name fun W hW => ?_
              have hbW : Below w4.heap.size w4 W := by rw [hW]; exact (Below.refl _ _).alloc (Nat.le_refl _) _
              have HX := Lib.hid (show BoxAt W nb [.int .i64 3, .int .i64 (j : Int), .int .u64 1, .slice (some ⟨g4, 0, none⟩) 1 c4] by rw [hW]; exact BoxAt.newAt _ _ hnb [_, _, _, _] _)
              have HOW := Lib.hid (HO4.out.below hbW (Nat.le_refl _))
              have HCW := Lib.hid (HC4.out.below hbW)
              have HBW := Lib.hid ((HB3.out.trans (HB4.out.below HU3.out hs3)).trans (hbW.mono (by omega)))
              have hlb3 := (HT3.out.lt lb rfl).2
              have HT4 := Lib.hid (HT3.out.beside HB4.out (fun k hk => by obtain rfl : lb = k := Option.some.inj hk; exact HN3.out))
              have HTW := Lib.hid (HT4.out.below hbW (Nat.le_refl _))
              have hsW : w4.heap.size ≤ W.heap.size := hbW.size
              have HUW := Lib.hid (show ∀ k, More U3 w3 w4 k → w.heap.size ≤ k from fun k hk => hk.elim (HU3.out k) fun h => by omega)
              have HNW := Lib.hid (show ¬ More U3 w3 w4 lb from fun h => h.elim HN3.out fun h => by omega)
              clear hW hbW
              rw [hnb]
              obtain ⟨x0, x1, x2, x3⟩ := HX.out.four
              have hcb := HOW.out.cell (k := 0) (x := f) rfl rfl
              have hcl := HTW.out.cell (by rw [List.length_map]; exact HK3.out.row.symm) HLJ.out
              have q3 := Near.cell (w := W.drew) (row := none) (show W.drew.cell? ⟨nb, 3, none⟩ = _ from x3) (by simp)
              have qb := Near.cell (w := W.drew) (row := none) (show W.drew.cell? ⟨g4, 0, none⟩ = _ from hcb) (by simp)
              have ql := Near.cell (w := W.drew) (row := none) (show W.drew.cell? ⟨lb, j, none⟩ = _ from hcl) (by simp)
              clear hnb
              obtain ⟨hw64, hwi64, hne⟩ := byte_wrap f
              refine wp_region_mix (fun w' => ∃ x : Near W.drew none, w' = x.world) [] 28 (by kernel_rfl) rfl ?_
              refine mix_reads_lit [0, 1, 2, 3, 4, 5, 6, 7, 8, 9, 10, 11] 16 (by kernel_rfl) (by kernel_rfl) (by kernel_rfl) (by kernel_rfl) rfl (NearC.of (World.grownBy.refl _ _)) ?_
              simp only [pick, List.filterMap_cons, List.filterMap_nil, List.getElem?_cons_succ, List.getElem?_cons_zero]
              repeat (first | go_big_quiet_step (fail) | quiet_step (fail))
              refine wpQuiet_nil ?_
              rw [show listAll (Array.replicate 28 false) [0, 1, 2, 3, 4, 5, 6, 7, 8, 9, 10, 11] = (#[true, true, true, true, true, true, true, true, true, true, true, true, false, false, false, false, false, false, false, false, false, false, false, false, false, false, false, false] : Array Bool) from rfl]
              refine mix_reads_lit [12, 13, 14, 15, 16, 17, 18, 19, 20, 21, 24] 5 (by kernel_rfl) (by kernel_rfl) (by kernel_rfl) (by kernel_rfl) rfl (NearC.of (World.grownBy.refl _ _)) ?_
              simp only [pick, List.filterMap_cons, List.filterMap_nil, List.getElem?_cons_succ, List.getElem?_cons_zero]
              repeat (first | go_big_quiet_step (fail) | quiet_step (fail))
              refine wpQuiet_nil ?_
              rw [show listAll #[true, true, true, true, true, true, true, true, true, true, true, true, false, false, false, false, false, false, false, false, false, false, false, false, false, false, false, false] [12, 13, 14, 15, 16, 17, 18, 19, 20, 21, 24] = (#[true, true, true, true, true, true, true, true, true, true, true, true, true, true, true, true, true, true, true, true, true, true, false, false, true, false, false, false] : Array Bool) from rfl]
              clear q3 qb ql x0 x1 x2 x3 hcb hcl
              refine mix_deed_lit 22 4 (by kernel_rfl) (by kernel_rfl) rfl (fun K hK => ?_)
              simp only [comesUp, List.getElem?_cons_succ, List.getElem?_cons_zero]
              refine if_mk rfl ?_
              go_simp
              refine (cheld_is (HCW.out.below (w' := W.drew) (Below.refl _ _).drew) HK4.out.good.ok.len.2 HL HHL.out).mono ?_
              rintro e w5 ⟨⟨a5, c5, rfl, ho5⟩, hb5⟩
              have b5 : Below W.heap.size W w5 := below_step (Below.refl _ _).drew hb5
              refine hK _ _ (fun _ _ => NearC.of (grown_of_below hb5 (Nat.le_refl _) _)) ?_
              clear hK K
              refine mix_reads_lit [23] 3 (by kernel_rfl) (by kernel_rfl) (by kernel_rfl) (by kernel_rfl) rfl (NearC.of (grown_of_below hb5 (Nat.le_refl _) _)) ?_
              simp only [pick, List.filterMap_cons, List.filterMap_nil, List.getElem?_cons_succ, List.getElem?_cons_zero]
              repeat (first | go_big_quiet_step (fail) | quiet_step (fail))
              refine wpQuiet_nil ?_
              refine mix_deed_lit 25 2 (by kernel_rfl) (by kernel_rfl) rfl (fun K hK => ?_)
              simp only [comesUp, List.getElem?_cons_succ, List.getElem?_cons_zero]
              refine if_mk rfl ?_
              go_simp
              refine (slots08_is n s HSN.out w5).mono ?_
              rintro e w6 ⟨rfl, rfl⟩
              refine hK _ _ (fun _ hc => hc) ?_
              clear hK K
              refine mix_reads_lit [26, 27] 0 (by kernel_rfl) (by kernel_rfl) (by kernel_rfl) (by kernel_rfl) rfl (NearC.of (grown_of_below hb5 (Nat.le_refl _) _)) ?_
              simp only [pick, List.filterMap_cons, List.filterMap_nil, List.getElem?_cons_succ, List.getElem?_cons_zero]
              repeat (first | go_big_quiet_step (fail) | quiet_step (fail))
              refine wpQuiet_nil ?_
              refine mix_done_lit (by kernel_rfl) ?_
              have HC5 := Lib.hid (HCW.out.below b5)
              have HT5 := Lib.hid (HTW.out.below b5 (Nat.le_refl _))
              have HB5 := Lib.hid (HBW.out.trans (b5.mono (by have := HBW.out.size; omega)))
              clear ho5 hb5 b5
              go_wp2_with fail
              go_roundw
              case rel => (repeat apply Exists.intro); exact ⟨⟨k + 1, L3, C4, _, by omega, by omega, by go_num, HK4.out.mono (by omega), HC5.out, HUW.out, HNW.out, HT5.out, HB5.out⟩, rfl⟩
              case measure => simp [intOf]; omega
            · have hkb : (a.kind.tmod 2 == 1) = false := by simp [hkd]
              clear hkd
              go_upto_region 17 with fail
              refine wp_name fun w3 hW3 => ?_
              have HC3 := Lib.hid (show CIn U' w3 c dp rg rc C by rw [hW3]; exact HC.out)
              have HT3 := Lib.hid (show OwnI w3 w.heap.size (.slice (some ⟨lb, 0, none⟩) 12 12) (L.map fun x => (x.toNat : Int)) by rw [hW3]; exact HT.out)
              have HB3 := Lib.hid (show Below w.heap.size w w3 by rw [hW3]; exact HBR.out)
              have HK3 := Lib.hid (HK.out.mono (Nat.le_succ _))
              have HU3 := HU'
              have HN3 := HN'
              clear hW3 c0 c1 c2 c3 hkb hm1 hm2 HC HT HK HU' HN'
              generalize U' = U3 at *
              generalize C = C3 at *
              generalize L = L3 at *
              have hs3 : w.heap.size ≤ w3.heap.size := HB3.out.size
              obtain ⟨C4, e4, k4⟩ := HK3.out.get (id := (j : Int)) (by omega) (by omega)
              obtain ⟨f, hf⟩ : ∃ f, L3.getD j 0 = f := ⟨_, rfl⟩
              have HE4 := Lib.hid (show Ch.get C3 (j : Int) = (C4, Ch.leafP (j : Int) f, 0) by rw [e4]; unfold Ch.viewL; rw [Int.toNat_natCast, hf])
              have HK4 := Lib.hid k4
              have HLJ := Lib.hid (show (L3.map fun x => (x.toNat : Int))[j]? = some (f.toNat : Int) by
                have hl := HK3.out.row
                rw [List.getElem?_map, List.getElem?_eq_getElem (by omega), ← hf, List.getD_eq_getElem?_getD, List.getElem?_eq_getElem (by omega)]; rfl)
              obtain ⟨HL, hHL⟩ : ∃ HL, Ch.held C4 = HL := ⟨_, rfl⟩
              have HHL := Lib.hid hHL
              have hle : (HL.length : Int) ≤ (s : Int) := by have := k4.held; rw [hHL] at this; omega
              clear e4 k4 hf hHL
              go_upto_region 18 with (go_at_call 40; (refine (cgetLeaf_is HC3.out HK3.out.good.ok (by omega) (j : Int) (j : Int) f HE4.out A (fun wx hx => HS.out.below (HB3.out.trans (hx.below HU3.out hs3)))).mono ?_); (rintro e w4 ⟨g4, c4, rfl, hO4, hC4, hB4⟩); (have HO4 := Lib.hid hO4); (have HC4 := Lib.hid hC4); (have HB4 := Lib.hid hB4); (clear hO4 hC4 hB4))
              have hs4 : w3.heap.size ≤ w4.heap.size := HB4.out.size
              obtain ⟨nb, hnb⟩ : ∃ nb, w4.heap.size = nb := ⟨_, rfl⟩
              refine wp_name fun W hW => ?_
              have hbW : Below w4.heap.size w4 W := by rw [hW]; exact (Below.refl _ _).alloc (Nat.le_refl _) _
              have HX := Lib.hid (show BoxAt W nb [.int .i64 3, .int .i64 (j : Int), .int .u64 1, .slice (some ⟨g4, 0, none⟩) 1 c4] by rw [hW]; exact BoxAt.newAt _ _ hnb [_, _, _, _] _)
              have HOW := Lib.hid (HO4.out.below hbW (Nat.le_refl _))
              have HCW := Lib.hid (HC4.out.below hbW)
              have HBW := Lib.hid ((HB3.out.trans (HB4.out.below HU3.out hs3)).trans (hbW.mono (by omega)))
              have hlb3 := (HT3.out.lt lb rfl).2
              have HT4 := Lib.hid (HT3.out.beside HB4.out (fun k hk => by obtain rfl : lb = k := Option.some.inj hk; exact HN3.out))
              have HTW := Lib.hid (HT4.out.below hbW (Nat.le_refl _))
              have hsW : w4.heap.size ≤ W.heap.size := hbW.size
              have HUW := Lib.hid (show ∀ k, More U3 w3 w4 k → w.heap.size ≤ k from fun k hk => hk.elim (HU3.out k) fun h => by omega)
              have HNW := Lib.hid (show ¬ More U3 w3 w4 lb from fun h => h.elim HN3.out fun h => by omega)
              clear hW hbW
              rw [hnb]
              obtain ⟨x0, x1, x2, x3⟩ := HX.out.four
              have hcb := HOW.out.cell (k := 0) (x := f) rfl rfl
              have hcl := HTW.out.cell (by rw [List.length_map]; exact HK3.out.row.symm) HLJ.out
              have q3 := Near.cell (w := W.drew) (row := none) (show W.drew.cell? ⟨nb, 3, none⟩ = _ from x3) (by simp)
              have qb := Near.cell (w := W.drew) (row := none) (show W.drew.cell? ⟨g4, 0, none⟩ = _ from hcb) (by simp)
              have ql := Near.cell (w := W.drew) (row := none) (show W.drew.cell? ⟨lb, j, none⟩ = _ from hcl) (by simp)
              clear hnb
              obtain ⟨hw64, hwi64, hne⟩ := byte_wrap f
              refine wp_region_mix (fun w' => ∃ x : Near W.drew none, w' = x.world) [] 28 (by kernel_rfl) rfl ?_
              refine mix_reads_lit [0, 1, 2, 3, 4, 5, 6, 7, 8, 9, 10, 11] 16 (by kernel_rfl) (by kernel_rfl) (by kernel_rfl) (by kernel_rfl) rfl (NearC.of (World.grownBy.refl _ _)) ?_
              simp only [pick, List.filterMap_cons, List.filterMap_nil, List.getElem?_cons_succ, List.getElem?_cons_zero]
              repeat (first | go_big_quiet_step (fail) | quiet_step (fail))
              refine wpQuiet_nil ?_
              rw [show listAll (Array.replicate 28 false) [0, 1, 2, 3, 4, 5, 6, 7, 8, 9, 10, 11] = (#[true, true, true, true, true, true, true, true, true, true, true, true, false, false, false, false, false, false, false, false, false, false, false, false, false, false, false, false] : Array Bool) from rfl]
              refine mix_reads_lit [12, 13, 14, 15, 16, 17, 18, 19, 20, 21, 24] 5 (by kernel_rfl) (by kernel_rfl) (by kernel_rfl) (by kernel_rfl) rfl (NearC.of (World.grownBy.refl _ _)) ?_
              simp only [pick, List.filterMap_cons, List.filterMap_nil, List.getElem?_cons_succ, List.getElem?_cons_zero]
              repeat (first | go_big_quiet_step (fail) | quiet_step (fail))
              refine wpQuiet_nil ?_
              rw [show listAll #[true, true, true, true, true, true, true, true, true, true, true, true, false, false, false, false, false, false, false, false, false, false, false, false, false, false, false, false] [12, 13, 14, 15, 16, 17, 18, 19, 20, 21, 24] = (#[true, true, true, true, true, true, true, true, true, true, true, true, true, true, true, true, true, true, true, true, true, true, false, false, true, false, false, false] : Array Bool) from rfl]
              clear q3 qb ql x0 x1 x2 x3 hcb hcl
              refine mix_deed_lit 22 4 (by kernel_rfl) (by kernel_rfl) rfl (fun K hK => ?_)
              simp only [comesUp, List.getElem?_cons_succ, List.getElem?_cons_zero]
              refine if_mk rfl ?_
              go_simp
              refine (cheld_is (HCW.out.below (w' := W.drew) (Below.refl _ _).drew) HK4.out.good.ok.len.2 HL HHL.out).mono ?_
              rintro e w5 ⟨⟨a5, c5, rfl, ho5⟩, hb5⟩
              have b5 : Below W.heap.size W w5 := below_step (Below.refl _ _).drew hb5
              refine hK _ _ (fun _ _ => NearC.of (grown_of_below hb5 (Nat.le_refl _) _)) ?_
              clear hK K
              refine mix_reads_lit [23] 3 (by kernel_rfl) (by kernel_rfl) (by kernel_rfl) (by kernel_rfl) rfl (NearC.of (grown_of_below hb5 (Nat.le_refl _) _)) ?_
              simp only [pick, List.filterMap_cons, List.filterMap_nil, List.getElem?_cons_succ, List.getElem?_cons_zero]
              repeat (first | go_big_quiet_step (fail) | quiet_step (fail))
              refine wpQuiet_nil ?_
              refine mix_deed_lit 25 2 (by kernel_rfl) (by kernel_rfl) rfl (fun K hK => ?_)
              simp only [comesUp, List.getElem?_cons_succ, List.getElem?_cons_zero]
              refine if_mk rfl ?_
              go_simp
              refine (slots08_is n s HSN.out w5).mono ?_
              rintro e w6 ⟨rfl, rfl⟩
              refine hK _ _ (fun _ hc => hc) ?_
              clear hK K
              refine mix_reads_lit [26, 27] 0 (by kernel_rfl) (by kernel_rfl) (by kernel_rfl) (by kernel_rfl) rfl (NearC.of (grown_of_below hb5 (Nat.le_refl _) _)) ?_
              simp only [pick, List.filterMap_cons, List.filterMap_nil, List.getElem?_cons_succ, List.getElem?_cons_zero]
              repeat (first | go_big_quiet_step (fail) | quiet_step (fail))
              refine wpQuiet_nil ?_
              refine mix_done_lit (by kernel_rfl) ?_
              have HC5 := Lib.hid (HCW.out.below b5)
              have HT5 := Lib.hid (HTW.out.below b5 (Nat.le_refl _))
              have HB5 := Lib.hid (HBW.out.trans (b5.mono (by have := HBW.out.size; omega)))
              clear ho5 hb5 b5
              go_wp2_with fail
              go_roundw
              case rel => (repeat apply Exists.intro); exact ⟨⟨k + 1, L3, C4, _, by omega, by omega, by go_num, HK4.out.mono (by omega), HC5.out, HUW.out, HNW.out, HT5.out, HB5.out⟩, rfl⟩
              case measure => simp [intOf]; omega
          · have h601 : ¬ (k : Int) < 60 := by omega
            go_wp2_with (go_at_call 42; (refine (awake08_any _ A (HS.out.below HBR.out)).mono ?_); (rintro e w9 ⟨rfl, hb9⟩); (have HB9 := Lib.hid hb9); (clear hb9))
            go_ret
            exact ⟨rfl, below_step HBR.out HB9.out⟩
        · have hlt1 : ¬ (k : Int) < (l.length : Int) := by omega
          go_wp2_with (go_at_call 42; (refine (awake08_any _ A (HS.out.below HBR.out)).mono ?_); (rintro e w9 ⟨rfl, hb9⟩); (have HB9 := Lib.hid hb9); (clear hb9))
          go_ret
          exact ⟨rfl, below_step HBR.out HB9.out⟩
end Go.Proofs.YtflbioiildndoaaDoor
