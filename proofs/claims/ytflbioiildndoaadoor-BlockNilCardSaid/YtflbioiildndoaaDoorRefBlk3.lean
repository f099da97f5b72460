/- the document's disks: Crash -/
import Derived.Test.YtflbioiildndoaaDoorRefBlk2
namespace Go.Proofs.YtflbioiildndoaaDoor
open Go.RowKit
set_option linter.unusedVariables false
set_option linter.unusedSimpArgs false

/-- lasting blocks by value -/
structure LastR (G : Nat → Prop) (w : World) (lv : Value) (xs : List Sl3) (L : List Bk.Blk) : Prop where
  row : RowAt eSl w lv xs
  inG : InG G lv
  len : xs.length = L.length
  each : ∀ (i : Nat) x b, xs[i]? = some x → L[i]? = some b → BytesAt w (.slice x.1 x.2.1 x.2.2) b ∧ InG G (.slice x.1 x.2.1 x.2.2)
theorem DiskR.lastR {G : Nat → Prop} {w : World} {d : Bk.Disk} {lv wv kv : Value} {xs : List Sl3} {ys : List (Int × Sl3)} (h : DiskR G w d lv wv kv xs ys) : LastR G w lv xs d.lasting := ⟨h.last, h.lastG, h.xlen, h.xeach⟩
theorem LastR.below {G : Nat → Prop} {w w' : World} {lv : Value} {xs : List Sl3} {L : List Bk.Blk} (h : LastR G w lv xs L) (hb : Below w.heap.size w w') : LastR G w' lv xs L :=
  ⟨h.row.below hb, h.inG, h.len, fun i x b hx hl => ⟨(h.each i x b hx hl).1.below hb, (h.each i x b hx hl).2⟩⟩
theorem LastR.mono {G G' : Nat → Prop} {w : World} {lv : Value} {xs : List Sl3} {L : List Bk.Blk} (h : LastR G w lv xs L) (hg : ∀ k, G k → G' k) : LastR G' w lv xs L :=
  ⟨h.row, h.inG.mono hg, h.len, fun i x b hx hl => ⟨(h.each i x b hx hl).1, (h.each i x b hx hl).2.mono hg⟩⟩
/-- another block at a place -/
theorem LastR.set {G G' : Nat → Prop} {w w' : World} {lv lv' : Value} {xs : List Sl3} {L : List Bk.Blk} (h : LastR G w lv xs L) (hb : Below w.heap.size w w') (hg : ∀ k, G k → G' k) {i : Nat} {x : Sl3} {b : Bk.Blk} (ho : RowAt eSl w' lv' (xs.set i x)) (hlv : InG G' lv')
    (hx : BytesAt w' (.slice x.1 x.2.1 x.2.2) b) (hxG : InG G' (.slice x.1 x.2.1 x.2.2)) : LastR G' w' lv' (xs.set i x) (L.set i b) := by
  refine ⟨ho, hlv, by simp [h.len], fun j y c hy hc => ?_⟩
  rw [List.getElem?_set] at hy hc
  by_cases hj : i = j
  · rw [if_pos hj] at hy hc
    split at hy
    · split at hc
      · cases hy; cases hc; exact ⟨hx, hxG⟩
      · cases hc
    · cases hy
  · rw [if_neg hj] at hy hc
    obtain ⟨h1, h2⟩ := h.each j y c hy hc
    exact ⟨h1.below hb, h2.mono hg⟩
theorem LastR.cell {G : Nat → Prop} {w : World} {lv : Value} {xs : List Sl3} {L : List Bk.Blk} (h : LastR G w lv xs L) {i : Nat} {b : Bk.Blk} (hi : L[i]? = some b) : ∃ (lg lo lc : Nat) (x : Sl3), lv = .slice (some ⟨lg, lo, none⟩) xs.length lc ∧ xs.length ≤ lc ∧ lc ≤ maxLen ∧ i < xs.length ∧ w.cell? ⟨lg, lo + i, none⟩ = some (.slice x.1 x.2.1 x.2.2) ∧ BytesAt w (.slice x.1 x.2.1 x.2.2) b ∧ InG G (.slice x.1 x.2.1 x.2.2) := by
  have hl : i < xs.length := by rw [h.len]; exact (List.getElem?_eq_some_iff.1 hi).1
  obtain ⟨a, c, e, h1, h2, h3⟩ := h.row
  rcases h3 with h3 | ⟨g, o, rfl, hc⟩
  · rw [h3] at hl; simp at hl
  · obtain ⟨x, hx⟩ := getElem?_some_of_lt hl
    have hcell := hc i x hx 0 _ rfl
    simp only [Nat.mul_one, Nat.add_zero] at hcell
    obtain ⟨g1, g2⟩ := h.each i x b hx hi
    exact ⟨g, o, c, x, e, h1, h2, hl, hcell, g1, g2⟩
theorem more_own {α : Type} {E : Elem α} {G : Nat → Prop} {w w1 w' : World} {v : Value} {l : List α} (h : OwnR E w' w1.heap.size v l) (hw : w.heap.size ≤ w1.heap.size) : InG (More G w w') v := fun k hk => .inr ⟨Nat.le_trans hw (h.lt k hk).1, (h.lt k hk).2⟩
theorem more_bytes {G : Nat → Prop} {w w1 w' : World} {v : Value} {l : List UInt8} (h : Own w' w1.heap.size v l) (hw : w.heap.size ≤ w1.heap.size) : InG (More G w w') v := fun k hk => .inr ⟨Nat.le_trans hw (h.lt k hk).1, (h.lt k hk).2⟩
theorem More.grow {G : Nat → Prop} {w w1 w2 : World} (h : w1.heap.size ≤ w2.heap.size) : ∀ k, More G w w1 k → More G w w2 k := fun k hk => hk.imp id fun ⟨a, b⟩ => ⟨a, Nat.lt_of_lt_of_le b h⟩
def CrashR (G : Nat → Prop) (w : World) (L : List Bk.Blk) (lv : Value) (wr : World) : Prop := (∃ xs, LastR (More G w wr) wr lv xs L) ∧ Below w.heap.size w wr
theorem CrashR.below {G : Nat → Prop} {w wr wr' : World} {L : List Bk.Blk} {lv : Value} (h : CrashR G w L lv wr) (hb : Below wr.heap.size wr wr') : CrashR G w L lv wr' := by
  obtain ⟨⟨xs, h1⟩, h2⟩ := h
  exact ⟨⟨xs, (h1.below hb).mono (More.grow hb.size)⟩, h2.trans (hb.mono h2.size)⟩
theorem DiskR.below {G : Nat → Prop} {w w' : World} {d : Bk.Disk} {lv wv kv : Value} {xs : List Sl3} {ys : List (Int × Sl3)} (h : DiskR G w d lv wv kv xs ys) (hG : Held G w) (hb : Below w.heap.size w w') : DiskR G w' d lv wv kv xs ys := h.on fun k hk => hb.block k (hG k hk)
theorem GivesR.late {G : Nat → Prop} {w W wr w' : World} {d : Bk.Disk} {lv wv kv : Value} {xs : List Sl3} {ys : List (Int × Sl3)} (h : DiskR (More G W wr) wr d lv wv kv xs ys) (hG : Held G w) (hb : Below w.heap.size w W) (hb1 : Below W.heap.size W wr) (hb2 : Below w.heap.size wr w') (hsafe : ∀ k, More G W wr k → w'.heap[k]? = wr.heap[k]?) : GivesR G w d (.returned (refD d lv wv kv)) w' ∧ Below w.heap.size w w' :=
  ⟨⟨_, rfl, _, _, _, _, _, rfl, (h.on hsafe).mono (fun k hk => hk.imp id fun ⟨x, y⟩ => ⟨Nat.le_trans hb.size x, Nat.lt_of_lt_of_le y hb2.size⟩)⟩, (hb.trans (hb1.mono hb.size)).trans hb2⟩
set_option maxRecDepth 100000 in
set_option maxHeartbeats 1000000 in
theorem refCrash4 {G : Nat → Prop} {w : World} {n : Nat} {d : Bk.Disk} {v : Value} (hr : RefAt G w v d) (ho : Bk.Ok n d) (hG : Held G w) (which cut : Int) (keepV : Value) (keep : List Bool) (hk : RowAt eBool w keepV keep) :
    Calls Tryd.prog 79 #[v, keepV, .int .i64 which, .int .i64 cut] w fun e w' => GivesR G w (Bk.crash d keep which cut) e w' ∧ Below w.heap.size w w' := by
  obtain ⟨lv, wv, kv, xs, ys, rfl, h⟩ := hr
  obtain ⟨la, lc, wa0, wc0, ka, kc, rfl, ew, rfl⟩ := h.shape
  obtain ⟨wa, wc, rfl, hwl, hwm, hwait⟩ := h.waitRow
  obtain ⟨ka2, kc2, rfl, hkc, hkm, hkx⟩ := id hk
  unfold maxLen at hwm hkm
  have H := Lib.hid h
  have HG := Lib.hid hG
  have HOK := Lib.hid ho
  have HW := Lib.hid hwait
  have HKX := Lib.hid hkx
  have hsz := ho.s
  have hbb := ho.b
  clear h hG hk ho hwait hkx ew wa0 wc0
  unfold refD
  go_enter Tryd.func79, Tryd.ntmps79
  go_upto_region 1 with fail
  refine wp_name fun W hW => ?_
  have HX := Lib.hid (show BoxAt W w.heap.size (cellsD d (.slice la xs.length lc) (.slice wa d.waiting.length wc) (.slice ka d.keep.length kc)) by rw [hW]; exact (BoxAt.new w (cellsD _ _ _ _) _).alloc _)
  have HY := Lib.hid (show BoxAt W (w.heap.size + 1) [.int .i64 0, .int .i64 0, .slice none 0 0, .slice none 0 0, .bool false, .int .i64 0, .int .i64 0, .int .i64 0, .slice none 0 0, .bool false, .int .i64 0] by rw [hW]; exact BoxAt.newAt _ _ (by simp) [_, _, _, _, _, _, _, _, _, _, _] _)
  have HB := Lib.hid (show Below w.heap.size w W by rw [hW]; go_grown)
  clear hW
  obtain ⟨-, -, m2, m3, -⟩ := HX.out.eleven
  go_wp2_with fail
  go_loopw [9, 10] (fun l i wr => ∃ k : Nat, k ≤ d.waiting.length ∧ i = .int .i64 (k : Int) ∧ CrashR G W (Bk.crashK keep which cut d.waiting d.lasting k) l wr) (fun _ i _ => d.waiting.length - (intOf i).toNat)
  case atStart => exact ⟨0, Nat.zero_le _, rfl, ⟨xs, (H.out.lastR.below HB.out).mono fun k hk => .inl hk⟩, Below.refl _ _⟩
  case round =>
    obtain ⟨k, hk, rfl, hc⟩ := hrel
    have HC := Lib.hid hc
    have HBW := Lib.hid hc.2
    have HBR := Lib.hid (HB.out.trans (hc.2.mono HB.out.size))
    clear hc m2 m3
    obtain ⟨-, -, m2, m3, -⟩ := (HX.out.below HBW.out).eleven
    by_cases hlt : k < d.waiting.length
    · obtain ⟨z, hz⟩ := getElem?_some_of_lt hlt
      obtain ⟨wg, wo, y, rfl, hy, c0, c1, g1, g2⟩ := HW.out k z hz
      have hbr := HBR.out
      have c0' := (hbr.cell (World.block_lt_of_cell? w _ c0)).trans c0
      have c1' := (hbr.cell (World.block_lt_of_cell? w _ c1)).trans c1
      have HYB := Lib.hid (g1.below hbr)
      have HYG := Lib.hid g2
      have hlt1 : (k : Int) < (d.waiting.length : Int) := by omega
      have hk0 : (0 : Int) ≤ (k : Int) := by omega
      have hzb := HOK.out.wait k z hz
      have HZ := Lib.hid hz
      clear hz hy c0 c1 g1 g2 hbr
      go_upto_region 6 with fail
      obtain ⟨old, hold⟩ : ∃ old, (Bk.crashK keep which cut d.waiting d.lasting k)[z.1]? = some old := getElem?_some_of_lt (by
        have := (Bk.crashK_row HOK.out.row keep which cut HOK.out.wait k).1; omega)
      have holdl : old.length = d.size := (Bk.crashK_row HOK.out.row keep which cut HOK.out.wait k).2 _ _ hold
      have hb0 : (0 : Int) ≤ (z.1 : Int) := by omega
      obtain ⟨⟨xs', hl'⟩, -⟩ := HC.out
      obtain ⟨lg, lo, lc2, x, rfl, hl1, hl2, hzl, lcell, lby, lG⟩ := hl'.cell hold
      unfold maxLen at hl2
      have hb1 : (z.1 : Int) < (xs'.length : Int) := by omega
      have hxl : xs'.length ≤ 256 := by rw [hl'.len, (Bk.crashK_row HOK.out.row keep which cut HOK.out.wait k).1]; omega
      have HLR := Lib.hid hl'
      have HLB := Lib.hid lby
      have HOLD := Lib.hid hold
      have HOL := Lib.hid holdl
      clear hl' lby lG hold holdl
      have hzs := hzb.2
      by_cases hkw : (k : Int) = which
      · obtain rfl : which = (k : Int) := hkw.symm
        clear hkw
        go_upto_region 7 with fail
        obtain ⟨R, hR⟩ : ∃ R, Bk.tornB old z.2 cut = R := ⟨_, rfl⟩
        have HR := Lib.hid hR
        clear hR
        have n3 := Near.cell (w := wr.drew) (row := none) m3 (by simp)
        have n4 := Near.cell (w := wr.drew) (row := none) lcell (by simp)
        have n5 := Near.cell (w := wr.drew) (row := none) c1' (by simp)
        refine wp_region_mix (fun w' => ∃ x : Near wr.drew none, w' = x.world) [] 16 (by kernel_rfl) rfl ?_
        refine mix_reads_lit [0, 1, 2, 3, 4, 5, 6, 7, 8, 9, 10, 11, 12] 3 (by kernel_rfl) (by kernel_rfl) (by kernel_rfl) (by kernel_rfl) rfl (NearC.of (World.grownBy.refl _ _)) ?_
        simp only [pick, List.filterMap_cons, List.filterMap_nil, List.getElem?_cons_succ, List.getElem?_cons_zero]
        repeat (first | go_big_quiet_step (fail) | quiet_step (fail))
        refine wpQuiet_nil ?_
        refine mix_deed_lit 13 2 (by kernel_rfl) (by kernel_rfl) rfl (fun K hK => ?_)
        simp only [comesUp, List.getElem?_cons_succ, List.getElem?_cons_zero]
        refine if_mk rfl ?_
        go_simp
        refine (refTorn4_is _ _ old z.2 cut R HR.out _ (HLB.out.below (Below.refl _ _).drew) (HYB.out.below (Below.refl _ _).drew) (by have := HOL.out; omega) (by have := HOL.out; omega)).mono ?_
        rintro e w2 ⟨⟨v2, rfl, ho2⟩, hb2⟩
        obtain ⟨a2, c2, rfl, -, -⟩ := ho2.slice
        refine hK _ _ (fun _ _ => NearC.of (grown_of_below hb2 (Nat.le_refl _) _)) ?_
        clear hK K
        refine mix_deed_lit 14 1 (by kernel_rfl) (by kernel_rfl) rfl (fun K hK => ?_)
        simp only [comesUp, List.getElem?_cons_succ, List.getElem?_cons_zero]
        refine if_mk rfl ?_
        go_simp
        refine (refWith_any _ xs' z.1 (a2, R.length, c2) _ (HLR.out.row.below ((Below.refl _ _).drew.trans hb2)) hzl (by omega)).mono ?_
        rintro e w3 ⟨⟨v3, rfl, ho3⟩, hb3⟩
        refine hK _ _ (fun _ _ => NearC.of (grown_of_below (below_step hb2 hb3) (Nat.le_refl _) _)) ?_
        clear hK K
        refine mix_flat_lit [15] 0 (by kernel_rfl) (by kernel_rfl) (by kernel_rfl) (by kernel_rfl) rfl ?_
        simp only [pick, List.filterMap_cons, List.filterMap_nil, List.getElem?_cons_succ, List.getElem?_cons_zero]
        repeat (first | go_big_quiet_step (fail) | quiet_step (fail))
        refine wpQuiet_nil ?_
        refine mix_done_lit (by kernel_rfl) ?_
        have hb23 : Below wr.heap.size wr w3 := (Below.refl _ _).drew.trans ((below_step hb2 hb3).mono (Nat.le_refl _))
        have hbw3 : Below W.heap.size W w3 := HBW.out.trans (hb23.mono HBW.out.size)
        have hwr := HBW.out.size
        have hw2 : W.heap.size ≤ w2.heap.size := Nat.le_trans hwr hb2.size
        have hnew : CrashR G W (Bk.crashK keep (k : Int) cut d.waiting d.lasting (k + 1)) v3 w3 := by
          rw [Bk.crashK, HZ.out]
          simp only
          unfold Bk.crash1
          rw [if_pos rfl, show (Bk.crashK keep (k : Int) cut d.waiting d.lasting k).getD z.1 [] = old by rw [List.getD_eq_getElem?_getD, HOLD.out]; rfl, HR.out]
          refine ⟨⟨_, HLR.out.set hb23 (More.grow hb23.size) (x := (a2, R.length, c2)) (ho3.at eSl_ok) (more_own ho3 hw2) (ho2.bytes.below hb3) ?_⟩, hbw3⟩
          exact (more_bytes ho2 (w1 := wr.drew) hwr).mono (More.grow hb3.size)
        have HN := Lib.hid hnew
        clear hnew hb23 hbw3 hw2 ho2 ho3 hb2 hb3 n3 n4 n5 m2 m3 c0' c1' lcell
        go_wp2_with fail
        go_roundw
        case rel => exact ⟨k + 1, by omega, by go_num, HN.out⟩
        case measure => simp [intOf]; omega
      · have e1 : ((k : Int) == which) = false := by simpa using hkw
        have HNE := Lib.hid hkw
        clear hkw
        by_cases hkl : k < keep.length
        · obtain ⟨b, hb⟩ := getElem?_some_of_lt hkl
          obtain ⟨kb, ko, rfl, kcell⟩ : ∃ kb o, ka2 = some ⟨kb, o, none⟩ ∧ w.cell? ⟨kb, o + k, none⟩ = some (.bool b) := by
            rcases HKX.out with h6 | ⟨kb, o, rfl, hc⟩
            · rw [h6] at hkl; simp at hkl
            · have := hc k b hb 0 (.bool b) rfl
              simp only [Nat.mul_one, Nat.add_zero] at this
              exact ⟨kb, o, rfl, this⟩
          have kcell' := (HBR.out.cell (World.block_lt_of_cell? w _ kcell)).trans kcell
          have hkl1 : (k : Int) < (keep.length : Int) := by omega
          have HB2 := Lib.hid hb
          clear hb kcell
          cases b with
          | false =>
            have hnew : CrashR G W (Bk.crashK keep which cut d.waiting d.lasting (k + 1)) (.slice (some ⟨lg, lo, none⟩) xs'.length lc2) wr := by
              rw [Bk.crashK, HZ.out]
              simp only
              unfold Bk.crash1
              rw [if_neg HNE.out, if_neg (by rw [List.getD_eq_getElem?_getD, HB2.out]; simp)]
              exact ⟨⟨_, HLR.out⟩, HBW.out⟩
            have HN := Lib.hid hnew
            clear hnew
            go_wp2_with fail
            go_roundw
            case rel => exact ⟨k + 1, by omega, by go_num, HN.out⟩
            case measure => simp [intOf]; omega
          | true =>
            go_upto_region 4 with (go_at_call 81; (refine (refWith_any _ xs' z.1 y _ HLR.out.row hzl (by omega)).mono ?_); (rintro e w3 ⟨⟨v3, rfl, ho3⟩, hb3⟩))
            have hnew : CrashR G W (Bk.crashK keep which cut d.waiting d.lasting (k + 1)) v3 w3 := by
              rw [Bk.crashK, HZ.out]
              simp only
              unfold Bk.crash1
              rw [if_neg HNE.out, if_pos (by rw [List.getD_eq_getElem?_getD, HB2.out]; rfl)]
              refine ⟨⟨_, HLR.out.set hb3 (More.grow hb3.size) (x := y) (ho3.at eSl_ok) (more_own ho3 HBW.out.size) (HYB.out.below hb3) (HYG.out.mono fun k hk => .inl hk)⟩, HBW.out.trans (hb3.mono HBW.out.size)⟩
            have HN := Lib.hid hnew
            clear hnew ho3 hb3 m2 m3 c0' c1' lcell kcell'
            go_wp2_with fail
            go_roundw
            case rel => exact ⟨k + 1, by omega, by go_num, HN.out⟩
            case measure => simp [intOf]; omega
        · have hkl1 : (keep.length : Int) ≤ (k : Int) := by omega
          have HKL := Lib.hid (show keep[k]? = none from List.getElem?_eq_none (by omega))
          clear hkl
          have hnew : CrashR G W (Bk.crashK keep which cut d.waiting d.lasting (k + 1)) (.slice (some ⟨lg, lo, none⟩) xs'.length lc2) wr := by
            rw [Bk.crashK, HZ.out]
            simp only
            unfold Bk.crash1
            rw [if_neg HNE.out, if_neg (by rw [List.getD_eq_getElem?_getD, HKL.out]; simp)]
            exact ⟨⟨_, HLR.out⟩, HBW.out⟩
          have HN := Lib.hid hnew
          clear hnew
          go_wp2_with fail
          go_roundw
          case rel => exact ⟨k + 1, by omega, by go_num, HN.out⟩
          case measure => simp [intOf]; omega
    · obtain rfl : k = d.waiting.length := by omega
      obtain ⟨⟨xs', hl'⟩, -⟩ := HC.out
      obtain ⟨la', lc', rfl, -, -, -⟩ := id hl'.row
      have HLR := Lib.hid hl'
      clear hl' hlt
      have hbx := HX.out.below HBW.out
      have hby := HY.out.below HBW.out
      clear m2 m3
      obtain ⟨x0, x1, x2, x3, x4, x5, x6, x7, x8, x9, x10⟩ := hbx.eleven
      obtain ⟨fx0, fx1, fx2, fx3, fx4, fx5, fx6, fx7, fx8, fx9, fx10⟩ := hbx.elevenF
      obtain ⟨y0, y1, y2, y3, y4, y5, y6, y7, y8, y9, y10⟩ := hby.eleven
      obtain ⟨fy0, fy1, fy2, fy3, fy4, fy5, fy6, fy7, fy8, fy9, fy10⟩ := hby.elevenF
      have hplt := hby.lt
      clear hbx hby
      go_wp2_with fail
      refine bodyPost_ret (v := refD (Bk.crash d keep which cut) (.slice la' xs'.length lc') (.slice none 0 0) (.slice ka d.keep.length kc)) (by simp [results, Tryd.results79, go_sem, refD, Bk.crash, y0, y1, y2, y3, y4, y5, y6, y7, y8, y9, y10]) rfl ?_
      have hd : DiskR (More G W wr) wr (Bk.crash d keep which cut) (.slice la' xs'.length lc') (.slice none 0 0) (.slice ka d.keep.length kc) xs' [] :=
        (((H.out.below HG.out HB.out).below (fun k hk => Nat.lt_of_lt_of_le (HG.out k hk) HB.out.size) HBW.out).mono (fun k hk => (.inl hk : More G W wr k))).newLast HLR.out.row HLR.out.inG HLR.out.len HLR.out.each rfl rfl
      have hW2 : w.heap.size + 1 < W.heap.size := HY.out.lt
      refine GivesR.late hd HG.out HB.out HBW.out ?_ fun k hk => ?_
      · repeat (first | refine Below.setCell ?_ (by first | exact Nat.le_refl _ | exact Nat.le_succ _) _ | exact Below.refl _ _)
      · have h0 : w.heap.size ≠ k := by rcases hk with h | h; (have := HG.out k h; omega); omega
        have h1 : w.heap.size + 1 ≠ k := by rcases hk with h | h; (have := HG.out k h; omega); omega
        repeat (first | rw [heap_set_ne h1] | rw [heap_set_ne h0])
end Go.Proofs.YtflbioiildndoaaDoor
