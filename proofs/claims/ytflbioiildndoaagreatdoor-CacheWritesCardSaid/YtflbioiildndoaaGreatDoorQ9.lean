/- merged: RefBlk1, RefBlk2, RefBlk3, RefBlk4, RefBlk5 -/
import Derived.Test.YtflbioiildndoaaGreatDoorBlockW2
/- the document's disks: Right, In, With, Read, torn -/
namespace Go.Proofs.YtflbioiildndoaaGreatDoor
open Go.RowKit
set_option linter.unusedVariables false
set_option linter.unusedSimpArgs false

set_option maxRecDepth 100000 in
theorem refIn4_is (d : Bk.Disk) (lv wv kv : Value) (i : Int) (B : Bool) (hB : decide (Bk.In d i) = B) (w : World) :
    Calls Tryz.prog 51 #[refD d lv wv kv, .int .i64 i] w fun e w' => e = .returned (.bool B) ∧ Below w.heap.size w w' := by
  unfold refD
  by_cases h0 : 0 ≤ i
  · by_cases h1 : i < d.blocks
    · obtain rfl : B = true := hB.symm.trans (decide_eq_true (show Bk.In d i from ⟨h0, h1⟩))
      clear hB
      go_enter Tryz.func51, Tryz.ntmps51
      go_wp2_with fail
      go_ret
      exact ⟨by first | rfl | exact ret_bool (by simp; omega), by go_grown⟩
    · have h2 : (d.blocks : Int) ≤ i := by omega
      obtain rfl : B = false := hB.symm.trans (decide_eq_false (fun h => h1 h.2))
      clear hB h1
      go_enter Tryz.func51, Tryz.ntmps51
      go_wp2_with fail
      go_ret
      exact ⟨by first | rfl | exact ret_bool (by simp; omega), by go_grown⟩
  · have h2 : i < 0 := by omega
    obtain rfl : B = false := hB.symm.trans (decide_eq_false (fun h => h0 h.1))
    clear hB h0
    go_enter Tryz.func51, Tryz.ntmps51
    go_wp2_with fail
    go_ret
    exact ⟨by first | rfl | exact ret_bool (by simp; omega), by go_grown⟩
set_option maxRecDepth 100000 in
theorem refWith_any (lv : Value) (xs : List Sl3) (i : Nat) (x : Sl3) (w : World) (h : RowAt eSl w lv xs) (hi : i < xs.length) (hl : xs.length ≤ 100000) :
    Calls Tryz.prog 92 #[lv, .int .i64 (i : Int), .slice x.1 x.2.1 x.2.2] w fun e w' => (∃ v, e = .returned v ∧ OwnR eSl w' w.heap.size v (xs.set i x)) ∧ Below w.heap.size w w' := by
  have HR := Lib.hid h
  clear h
  go_enter Tryz.func92, Tryz.ntmps92
  go_upto_region 2 with (at_builtin; (refine wpList_append_row eSl eSl_ok rfl (.tmp 8) (.tmp 9) rfl w.heap.size _ [] rfl (OwnR.empty w _ (Nat.le_refl _)) _ xs rfl (HR.out.alloc _) (by simp; omega) (by simp; omega) (by simp) ?_))
  intro v1 w1 ho hg hn
  have hbel := ((Below.refl w.heap.size w).alloc (Nat.le_refl _) (.cells #[] 53)).grown hg (by simp) (by intro k hk; simp [Value.ownBlock] at hk; omega)
  rcases ho.row with ⟨rfl, e0⟩ | ⟨g, cap, rfl, hg1, hg2, hg3, hg4⟩
  · rw [e0] at hi; simp at hi
  unfold maxLen at hg4
  obtain ⟨y, hy⟩ := getElem?_some_of_lt hi
  have hc := OwnR.cell eSl_ok ho hy (j := 0) (u := .slice y.1 y.2.1 y.2.2) rfl
  have hf := ho.free i
  simp only [Nat.mul_one, Nat.add_zero] at hc
  have hs := OwnR.set eSl_ok ho hy (j := 0) (y := x) (u := .slice x.1 x.2.1 x.2.2) (show 0 < 1 by decide) rfl
  simp only [Nat.mul_one, Nat.add_zero] at hs
  have HS := Lib.hid hs
  have HB := Lib.hid (hbel.setCell (p := ⟨g, i, none⟩) hg1 (.slice x.1 x.2.1 x.2.2))
  have hi0 : (0 : Int) ≤ (i : Int) := by omega
  have hi1 : (i : Int) < (xs.length : Int) := by omega
  clear ho hg hn hbel hy hs
  go_wp2_with fail
  go_ret
  exact ⟨⟨_, rfl, HS.out⟩, HB.out⟩
section
variable {G : Nat → Prop} {w : World} {n : Nat} {d : Bk.Disk} {lv wv kv : Value} {xs : List Sl3} {ys : List (Int × Sl3)}
/-- the lasting blocks' row of the document's disk -/
theorem DiskR.lastRow (h : DiskR G w d lv wv kv xs ys) (ho : Bk.Ok n d) : ∃ lg lo lc, lv = .slice (some ⟨lg, lo, none⟩) d.blocks lc ∧ d.blocks ≤ lc ∧ lc ≤ maxLen ∧ ∀ i, i < d.blocks → ∃ x, xs[i]? = some x ∧ w.cell? ⟨lg, lo + i, none⟩ = some (.slice x.1 x.2.1 x.2.2) ∧ BytesAt w (.slice x.1 x.2.1 x.2.2) (Bk.lastB d i) ∧ InG G (.slice x.1 x.2.1 x.2.2) := by
  have hl : xs.length = d.blocks := by rw [h.xlen, ho.len]
  obtain ⟨a, c, e, h1, h2, h3⟩ := h.last
  rcases h3 with h3 | ⟨b, o, rfl, hc⟩
  · rw [h3] at hl; have := ho.b; simp at hl; omega
  · rw [hl] at e h1
    refine ⟨b, o, c, e, h1, h2, fun i hi => ?_⟩
    obtain ⟨x, hx⟩ := getElem?_some_of_lt (l := xs) (k := i) (by omega)
    have hcell := hc i x hx 0 _ rfl
    simp only [Nat.mul_one, Nat.add_zero] at hcell
    obtain ⟨g1, g2⟩ := h.xeach i x _ hx (ho.lastB hi).2
    exact ⟨x, hx, hcell, g1, g2⟩
theorem DiskR.waitRow (h : DiskR G w d lv wv kv xs ys) : ∃ wa wc, wv = .slice wa d.waiting.length wc ∧ d.waiting.length ≤ wc ∧ wc ≤ maxLen ∧ ∀ i z, d.waiting[i]? = some z → ∃ wg wo y, wa = some ⟨wg, wo, none⟩ ∧ ys[i]? = some ((z.1 : Int), y) ∧ w.cell? ⟨wg, wo + i * 2, none⟩ = some (.int .i64 (z.1 : Int)) ∧ w.cell? ⟨wg, wo + i * 2 + 1, none⟩ = some (.slice y.1 y.2.1 y.2.2) ∧ BytesAt w (.slice y.1 y.2.1 y.2.2) z.2 ∧ InG G (.slice y.1 y.2.1 y.2.2) := by
  obtain ⟨a, c, e, h1, h2, h3⟩ := h.wait
  rw [h.ylen] at e h1
  refine ⟨a, c, e, h1, h2, fun i z hz => ?_⟩
  have hi : i < ys.length := by rw [h.ylen]; exact (List.getElem?_eq_some_iff.1 hz).1
  rcases h3 with h3 | ⟨b, o, rfl, hc⟩
  · rw [h3] at hi; simp at hi
  · obtain ⟨⟨q, y⟩, hy⟩ := getElem?_some_of_lt hi
    obtain ⟨e1, g1, g2⟩ := h.yeach i _ z hy hz
    simp only at e1 g1 g2
    subst e1
    have c0 := hc i _ hy 0 _ rfl
    have c1 := hc i _ hy 1 _ rfl
    refine ⟨b, o, y, rfl, hy, by simpa using c0, ?_, g1, g2⟩
    have : o + (i * 2 + 1) = o + i * 2 + 1 := by omega
    rw [← this]; exact c1
end
def GivesG (G : Nat → Prop) (l : List UInt8) (e : Ending) (w' : World) : Prop := ∃ a c, e = .returned (.slice a l.length c) ∧ BytesAt w' (.slice a l.length c) l ∧ InG G (.slice a l.length c)
def OutG (G : Nat → Prop) (w : World) (l : List UInt8) (v : Value) : Prop := BytesAt w v l ∧ InG G v
set_option maxRecDepth 100000 in
theorem refRead4_ok {G : Nat → Prop} {w : World} {n : Nat} {d : Bk.Disk} {v : Value} (hr : RefAt G w v d) (ho : Bk.Ok n d) (i : Nat) (h2 : i < d.blocks) (l : List UInt8) (hl : Bk.read d i = l) :
    Calls Tryz.prog 17 #[v, .int .i64 (i : Int)] w fun e w' => GivesG G l e w' ∧ Below w.heap.size w w' := by
  obtain ⟨lv, wv, kv, xs, ys, rfl, h⟩ := hr
  obtain ⟨lg, lo, lc, rfl, hlc, hlm, hlast⟩ := h.lastRow ho
  obtain ⟨wa, wc, rfl, hwl, hwm, hwait⟩ := h.waitRow
  unfold maxLen at hlm hwm
  obtain ⟨x, hx, hcx, hbx, hgx⟩ := hlast i h2
  have hi0 : (0 : Int) ≤ (i : Int) := by omega
  have hi1 : (i : Int) < (d.blocks : Int) := by omega
  have HW := Lib.hid hwait
  have HST := Lib.hid (show OutG G w (Bk.readK d.waiting i (Bk.lastB d i) 0) (.slice x.1 x.2.1 x.2.2) from ⟨hbx, hgx⟩)
  have HL := Lib.hid hl
  clear h ho hlast hwait hx hbx hgx hl
  unfold refD
  go_enter Tryz.func17, Tryz.ntmps17
  go_upto_region 1 with fail
  refine wp_name fun W hW => ?_
  have HX := Lib.hid (show BoxAt W w.heap.size (cellsD d (.slice (some ⟨lg, lo, none⟩) d.blocks lc) (.slice wa d.waiting.length wc) kv) by rw [hW]; exact BoxAt.new w (cellsD _ _ _ _) _)
  have HB := Lib.hid (show Below w.heap.size w W by rw [hW]; exact (Below.refl _ _).alloc (Nat.le_refl _) _)
  clear hW
  obtain ⟨-, -, m2, m3, -⟩ := HX.out.eleven
  have hcx' : W.cell? ⟨lg, lo + i, none⟩ = some (.slice x.1 x.2.1 x.2.2) := by rw [HB.out.cell (World.block_lt_of_cell? w _ hcx)]; exact hcx
  go_wp2_with fail
  go_loop [5, 6] (fun o k => ∃ j : Nat, j ≤ d.waiting.length ∧ k = .int .i64 (j : Int) ∧ OutG G w (Bk.readK d.waiting i (Bk.lastB d i) j) o) (fun _ k => d.waiting.length - (intOf k).toNat)
  case atStart => exact ⟨0, Nat.zero_le _, rfl, HST.out⟩
  case round =>
    obtain ⟨j, hj, rfl, hout⟩ := hrel
    have HO := Lib.hid hout
    clear hout
    by_cases hlt : j < d.waiting.length
    · obtain ⟨z, hz⟩ := getElem?_some_of_lt hlt
      obtain ⟨wg, wo, y, rfl, hy, c0, c1, g1, g2⟩ := HW.out j z hz
      have c0' : W.cell? ⟨wg, wo + j * 2, none⟩ = some (.int .i64 (z.1 : Int)) := by rw [HB.out.cell (World.block_lt_of_cell? w _ c0)]; exact c0
      have c1' : W.cell? ⟨wg, wo + j * 2 + 1, none⟩ = some (.slice y.1 y.2.1 y.2.2) := by rw [HB.out.cell (World.block_lt_of_cell? w _ c1)]; exact c1
      have hlt1 : (j : Int) < (d.waiting.length : Int) := by omega
      have hj0 : (0 : Int) ≤ (j : Int) := by omega
      by_cases hzi : z.1 = i
      · have e1 : ((z.1 : Int) == (i : Int)) = true := by simp [hzi]
        have HN := Lib.hid (show OutG G w (Bk.readK d.waiting i (Bk.lastB d i) (j + 1)) (.slice y.1 y.2.1 y.2.2) by rw [readK_hit hz hzi]; exact ⟨g1, g2⟩)
        clear hz hzi hy c0 c1 g1 g2
        go_wp2_with fail
        go_round
        case rel => exact ⟨j + 1, by omega, by go_num, HN.out⟩
        case measure => simp [intOf]; omega
      · have e1 : ((z.1 : Int) == (i : Int)) = false := by simp; omega
        have HN := Lib.hid (show Bk.readK d.waiting i (Bk.lastB d i) (j + 1) = Bk.readK d.waiting i (Bk.lastB d i) j from readK_miss hz hzi)
        clear hz hzi hy c0 c1 g1 g2
        go_wp2_with fail
        go_round
        case rel => exact ⟨j + 1, by omega, by go_num, by rw [HN.out]; exact HO.out⟩
        case measure => simp [intOf]; omega
    · obtain rfl : j = d.waiting.length := by omega
      obtain ⟨⟨a, c, rfl, b1, b2, b3⟩, hg⟩ := id HO.out
      clear b1 b2 b3
      have hread : Bk.readK d.waiting i (Bk.lastB d i) d.waiting.length = l := HL.out
      rw [hread] at hg
      have HG := Lib.hid hg
      have HRD := Lib.hid hread
      clear hg hread
      go_wp2_with fail
      go_ret
      rw [HRD.out]
      refine ⟨⟨a, c, rfl, ?_, HG.out⟩, HB.out⟩
      have := HO.out.1.below HB.out
      rw [HRD.out] at this
      exact this
end Go.Proofs.YtflbioiildndoaaGreatDoor

/- the document's disks: torn, Arm, On -/
namespace Go.Proofs.YtflbioiildndoaaGreatDoor
open Go.RowKit
set_option linter.unusedVariables false
set_option linter.unusedSimpArgs false

theorem byteOne4 (w : World) (x : UInt8) (n : Nat) (hn : w.heap.size = n) : BytesAt (w.alloc (.cells #[.int .u8 (x.toNat : Int)] 5)) (.slice (some ⟨n, 0, none⟩) 1 1) [x] := by
  subst hn
  refine ⟨_, 1, rfl, Nat.le_refl _, by unfold maxLen; decide, .inr ⟨w.heap.size, 0, rfl, fun i y hy => ?_⟩⟩
  have hi : i = 0 := by have := (List.getElem?_eq_some_iff.1 hy).1; simp at this; omega
  subst hi
  simp at hy
  subst hy
  rw [cell_of_row _ w.heap.size _ _ 5 (0, 0) (heap_alloc_new w _)]
  rfl
theorem tornB_at {old b : Bk.Blk} {cut : Int} (h : old.length = b.length) {k : Nat} (hk : k < old.length) : (Bk.tornB old b cut)[k]? = if (k : Int) < cut then b[k]? else old[k]? := by
  unfold Bk.tornB
  by_cases hc : (k : Int) < cut
  · rw [if_pos hc, List.getElem?_append_left (by rw [List.length_take]; omega), List.getElem?_take, if_pos (by omega)]
  · rw [if_neg hc, List.getElem?_append_right (by rw [List.length_take]; omega), List.getElem?_drop, List.length_take]
    congr 1
    omega
set_option maxRecDepth 100000 in
theorem refTorn4_is (v1 v2 : Value) (old b : List UInt8) (cut : Int) (R : List UInt8) (hR : Bk.tornB old b cut = R) (w : World) (h1 : BytesAt w v1 old) (h2 : BytesAt w v2 b) (hl : old.length = b.length) (hm : old.length ≤ 100000) :
    Calls Tryz.prog 93 #[v1, v2, .int .i64 cut] w fun e w' => (∃ v, e = .returned v ∧ Own w' w.heap.size v R) ∧ Below w.heap.size w w' := by
  have hRl : R.length = old.length := by rw [← hR, Bk.tornB_length hl, hl]
  have hat := fun k (hk : k < old.length) => tornB_at (cut := cut) hl hk
  rw [hR] at hat
  have HAT := Lib.hid hat
  have H1 := Lib.hid h1
  have H2 := Lib.hid h2
  have HRL := Lib.hid hRl
  have HL := Lib.hid hl
  obtain ⟨a1, c1, rfl, hc1, hm1, hx1⟩ := h1
  obtain ⟨a2, c2, rfl, hc2, hm2, hx2⟩ := h2
  have HX1 := Lib.hid hx1
  have HX2 := Lib.hid hx2
  unfold maxLen at hm1 hm2
  clear hR hat hRl hl hx1 hx2
  go_enter Tryz.func93, Tryz.ntmps93
  go_wp2_with fail
  go_loopw [7, 8] (fun o i wr => ∃ k : Nat, k ≤ old.length ∧ i = .int .i64 (k : Int) ∧ Own wr w.heap.size o (R.take k) ∧ Below w.heap.size w wr) (fun _ i _ => old.length - (intOf i).toNat)
  case atStart => exact ⟨0, Nat.zero_le _, rfl, Own.empty w _ (Nat.le_refl _), (Below.refl _ _).alloc (Nat.le_refl _) _⟩
  case round =>
    obtain ⟨k, hk, rfl, ho, hb⟩ := hrel
    have HO := Lib.hid ho
    have HB := Lib.hid hb
    clear ho hb
    by_cases hlt : k < old.length
    · have hlt1 : (k : Int) < (old.length : Int) := by omega
      have hk0 : (0 : Int) ≤ (k : Int) := by omega
      have hlt2 : (k : Int) < (b.length : Int) := by have := HL.out; omega
      obtain ⟨r, hr⟩ := getElem?_some_of_lt (l := R) (k := k) (by rw [HRL.out]; exact hlt)
      have hRk := HAT.out k hlt
      rw [hr] at hRk
      have hsn : R.take (k + 1) = R.take k ++ [r] := by rw [List.take_add_one, hr]; rfl
      have HSN := Lib.hid hsn
      have htl : (R.take k).length ≤ 100000 := by rw [List.length_take]; omega
      have HTL := Lib.hid htl
      clear hr hsn htl
      by_cases hc : (k : Int) < cut
      · rw [if_pos hc] at hRk
        obtain ⟨b1, o1, rfl, hcell⟩ : ∃ b1 o1, a2 = some ⟨b1, o1, none⟩ ∧ w.cell? ⟨b1, o1 + k, none⟩ = some (.int .u8 (r.toNat : Int)) := by
          rcases HX2.out with h | ⟨b1, o1, rfl, hc⟩
          · have h2 : b.length = 0 := by rw [h]; rfl
            have := HL.out; omega
          · exact ⟨b1, o1, rfl, hc k r hRk.symm⟩
        have hcell' := (HB.out.cell (World.block_lt_of_cell? w _ hcell)).trans hcell
        clear hRk hcell
        go_wp2_with (at_builtin; (refine wpList_append_bytes rfl (.tmp 19) (.tmp 24) rfl w.heap.size _ _ rfl (HO.out.alloc _) _ [r] rfl (byteOne4 _ r _ rfl) (by have := HTL.out; simp at this ⊢; omega) (by have := HB.out.size; simp; omega) ?_))
        intro v3 w3 ho3 hg3 hn3
        have HO3 := Lib.hid ho3
        have HB3 := Lib.hid ((HB.out.alloc HB.out.size (.cells #[.int .u8 (r.toNat : Int)] 5)).grown hg3 (by have := HB.out.size; simp; omega) (fun j hj => (HO.out.lt j hj).1))
        clear ho3 hg3 hn3
        go_wp2_with fail
        go_roundw
        case rel => exact ⟨k + 1, by omega, by go_num, by rw [HSN.out]; exact HO3.out, HB3.out⟩
        case measure => simp [intOf]; omega
      · rw [if_neg hc] at hRk
        have hc' : cut ≤ (k : Int) := by omega
        obtain ⟨b1, o1, rfl, hcell⟩ : ∃ b1 o1, a1 = some ⟨b1, o1, none⟩ ∧ w.cell? ⟨b1, o1 + k, none⟩ = some (.int .u8 (r.toNat : Int)) := by
          rcases HX1.out with h | ⟨b1, o1, rfl, hc⟩
          · rw [h] at hlt; simp at hlt
          · exact ⟨b1, o1, rfl, hc k r hRk.symm⟩
        have hcell' := (HB.out.cell (World.block_lt_of_cell? w _ hcell)).trans hcell
        clear hRk hcell hc
        go_wp2_with (at_builtin; (refine wpList_append_bytes rfl (.tmp 26) (.tmp 31) rfl w.heap.size _ _ rfl (HO.out.alloc _) _ [r] rfl (byteOne4 _ r _ rfl) (by have := HTL.out; simp at this ⊢; omega) (by have := HB.out.size; simp; omega) ?_))
        intro v3 w3 ho3 hg3 hn3
        have HO3 := Lib.hid ho3
        have HB3 := Lib.hid ((HB.out.alloc HB.out.size (.cells #[.int .u8 (r.toNat : Int)] 5)).grown hg3 (by have := HB.out.size; simp; omega) (fun j hj => (HO.out.lt j hj).1))
        clear ho3 hg3 hn3
        go_wp2_with fail
        go_roundw
        case rel => exact ⟨k + 1, by omega, by go_num, by rw [HSN.out]; exact HO3.out, HB3.out⟩
        case measure => simp [intOf]; omega
    · obtain rfl : k = old.length := by omega
      have HO2 : Hid (Own wr w.heap.size _ R) := Lib.hid (by have := HO.out; rwa [← HRL.out, List.take_length] at this)
      go_wp2_with fail
      go_ret
      exact ⟨⟨_, rfl, HO2.out⟩, HB.out⟩
/-! ### disks by value -/
/-- a disk of the document, in memory that was there or is new -/
def GivesR (G : Nat → Prop) (w : World) (d : Bk.Disk) (e : Ending) (w' : World) : Prop := ∃ v, e = .returned v ∧ RefAt (More G w w') w' v d
def GivesRC (G : Nat → Prop) (w : World) (d : Bk.Disk) (k : Nat) (e : Ending) (w' : World) : Prop := ∃ v, e = .returned (.tuple #[v, .int .i64 (k : Int)]) ∧ RefAt (More G w w') w' v d
/-- the cells of a disk by value -/
abbrev eD (d : Bk.Disk) (lv wv kv : Value) : Array Value := #[.int .i64 (d.blocks : Int), .int .i64 (d.size : Int), lv, wv, .bool d.lit, .int .i64 d.after, .int .i64 d.torn, .int .i64 d.cut, kv, .bool d.off, .int .i64 d.count]
theorem DiskR.more {G : Nat → Prop} {w w' : World} {d : Bk.Disk} {lv wv kv : Value} {xs : List Sl3} {ys : List (Int × Sl3)} (h : DiskR G w d lv wv kv xs ys) (hG : Held G w) (hb : Below w.heap.size w w') : DiskR (More G w w') w' d lv wv kv xs ys :=
  (h.on fun k hk => hb.block k (hG k hk)).mono fun k hk => .inl hk
theorem DiskR.shape {G : Nat → Prop} {w : World} {d : Bk.Disk} {lv wv kv : Value} {xs : List Sl3} {ys : List (Int × Sl3)} (h : DiskR G w d lv wv kv xs ys) : ∃ la lc wa wc ka kc, lv = .slice la xs.length lc ∧ wv = .slice wa ys.length wc ∧ kv = .slice ka d.keep.length kc := by
  obtain ⟨la, lc, e1, -⟩ := h.last
  obtain ⟨wa, wc, e2, -⟩ := h.wait
  obtain ⟨ka, kc, e3, -⟩ := h.keep
  exact ⟨la, lc, wa, wc, ka, kc, e1, e2, e3⟩
theorem DiskR.noKeep {G : Nat → Prop} {w : World} {d d' : Bk.Disk} {lv wv kv : Value} {xs : List Sl3} {ys : List (Int × Sl3)} (h : DiskR G w d lv wv kv xs ys) (e2 : d'.lasting = d.lasting) (e3 : d'.waiting = d.waiting) (e4 : d'.keep = []) : DiskR G w d' lv wv (.slice none 0 0) xs ys where
  last := h.last
  wait := h.wait
  keep := by rw [e4]; exact RowAt.nil _ _
  lastG := h.lastG
  waitG := h.waitG
  keepG := .inl e4
  xlen := by rw [e2]; exact h.xlen
  xeach := by rw [e2]; exact h.xeach
  ylen := by rw [e3]; exact h.ylen
  yeach := by rw [e3]; exact h.yeach
theorem DiskR.as {G : Nat → Prop} {w : World} {d d' : Bk.Disk} {lv wv kv : Value} {xs : List Sl3} {ys : List (Int × Sl3)} (h : DiskR G w d lv wv kv xs ys) (e2 : d'.lasting = d.lasting) (e3 : d'.waiting = d.waiting) (e4 : d'.keep = d.keep) : DiskR G w d' lv wv kv xs ys where
  last := h.last
  wait := h.wait
  keep := by rw [e4]; exact h.keep
  lastG := h.lastG
  waitG := h.waitG
  keepG := by rw [e4]; exact h.keepG
  xlen := by rw [e2]; exact h.xlen
  xeach := by rw [e2]; exact h.xeach
  ylen := by rw [e3]; exact h.ylen
  yeach := by rw [e3]; exact h.yeach
theorem DiskR.newKeep {G : Nat → Prop} {w : World} {d d' : Bk.Disk} {lv wv kv kv' : Value} {xs : List Sl3} {ys : List (Int × Sl3)} (h : DiskR G w d lv wv kv xs ys) (e2 : d'.lasting = d.lasting) (e3 : d'.waiting = d.waiting) (hk : RowAt eBool w kv' d'.keep) (hG : d'.keep = [] ∨ InG G kv') : DiskR G w d' lv wv kv' xs ys where
  last := h.last
  wait := h.wait
  keep := hk
  lastG := h.lastG
  waitG := h.waitG
  keepG := hG
  xlen := by rw [e2]; exact h.xlen
  xeach := by rw [e2]; exact h.xeach
  ylen := by rw [e3]; exact h.ylen
  yeach := by rw [e3]; exact h.yeach
theorem DiskR.newLast {G : Nat → Prop} {w : World} {d d' : Bk.Disk} {lv lv' wv kv : Value} {xs xs' : List Sl3} {ys : List (Int × Sl3)} (h : DiskR G w d lv wv kv xs ys) (hl : RowAt eSl w lv' xs') (hlG : InG G lv') (hx : xs'.length = d'.lasting.length) (he : ∀ (i : Nat) x b, xs'[i]? = some x → d'.lasting[i]? = some b → BytesAt w (.slice x.1 x.2.1 x.2.2) b ∧ InG G (.slice x.1 x.2.1 x.2.2)) (e3 : d'.waiting = []) (e4 : d'.keep = d.keep) : DiskR G w d' lv' (.slice none 0 0) kv xs' [] where
  last := hl
  wait := RowAt.nil _ _
  keep := by rw [e4]; exact h.keep
  lastG := hlG
  waitG := fun k hk => by cases hk
  keepG := by rw [e4]; exact h.keepG
  xlen := hx
  xeach := he
  ylen := by rw [e3]; rfl
  yeach := fun i y z hy => by cases hy
theorem GivesR.of {G : Nat → Prop} {w w' : World} {d : Bk.Disk} {lv wv kv : Value} {xs : List Sl3} {ys : List (Int × Sl3)} (h : DiskR G w d lv wv kv xs ys) (hG : Held G w) (hb : Below w.heap.size w w') : GivesR G w d (.returned (refD d lv wv kv)) w' ∧ Below w.heap.size w w' :=
  ⟨⟨_, rfl, _, _, _, _, _, rfl, h.more hG hb⟩, hb⟩
theorem GivesRC.of {G : Nat → Prop} {w w' : World} {d : Bk.Disk} {k : Nat} {lv wv kv : Value} {xs : List Sl3} {ys : List (Int × Sl3)} (h : DiskR G w d lv wv kv xs ys) (hG : Held G w) (hb : Below w.heap.size w w') : GivesRC G w d k (.returned (.tuple #[refD d lv wv kv, .int .i64 (k : Int)])) w' ∧ Below w.heap.size w w' :=
  ⟨⟨_, rfl, _, _, _, _, _, rfl, h.more hG hb⟩, hb⟩
set_option maxRecDepth 100000 in
theorem refOn4 {G : Nat → Prop} {w : World} {d : Bk.Disk} {v : Value} (hr : RefAt G w v d) (hG : Held G w) :
    Calls Tryz.prog 11 #[v] w fun e w' => GivesR G w (Bk.on d) e w' ∧ Below w.heap.size w w' := by
  obtain ⟨lv, wv, kv, xs, ys, rfl, h⟩ := hr
  obtain ⟨la, lc, wa, wc, ka, kc, rfl, rfl, rfl⟩ := h.shape
  have H := Lib.hid h
  have HG := Lib.hid hG
  clear h hG
  unfold refD
  go_enter Tryz.func11, Tryz.ntmps11
  go_wp2_with fail
  refine bodyPost_ret (v := refD (Bk.on d) (.slice la xs.length lc) (.slice wa ys.length wc) (.slice none 0 0)) (by simp [results, Tryz.results11, go_sem, refD, Bk.on]) rfl ?_
  exact GivesR.of (H.out.noKeep (d' := Bk.on d) rfl rfl rfl) HG.out (by go_grown)
set_option maxRecDepth 100000 in
theorem refArm4 {G : Nat → Prop} {w : World} {d : Bk.Disk} {v : Value} (hr : RefAt G w v d) (hG : Held G w) (after which cut : Int) (keepV : Value) (keep : List Bool) (hk : RowAt eBool w keepV keep) (hkG : keep = [] ∨ InG G keepV) :
    Calls Tryz.prog 71 #[v, .int .i64 after, keepV, .int .i64 which, .int .i64 cut] w fun e w' => GivesRC G w (Bk.arm d after keep which cut).1 (Bk.arm d after keep which cut).2 e w' ∧ Below w.heap.size w w' := by
  obtain ⟨lv, wv, kv, xs, ys, rfl, h⟩ := hr
  obtain ⟨la, lc, wa, wc, ka, kc, rfl, rfl, rfl⟩ := h.shape
  obtain ⟨ka2, kc2, rfl, -, -, -⟩ := id hk
  have H := Lib.hid h
  have HG := Lib.hid hG
  have HK := Lib.hid hk
  have HKG := Lib.hid hkG
  clear h hG hk hkG
  unfold refD
  by_cases ha : after < 0
  · have HE := Lib.hid (show Bk.arm d after keep which cut = (d, 2) by unfold Bk.arm; rw [if_pos ha])
    go_enter Tryz.func71, Tryz.ntmps71
    go_wp2_with fail
    rw [HE.out]
    refine bodyPost_ret (v := .tuple #[refD d (.slice la xs.length lc) (.slice wa ys.length wc) (.slice ka d.keep.length kc), .int .i64 2]) (by simp [results, Tryz.results71, go_sem, refD]) rfl ?_
    exact GivesRC.of H.out HG.out (by go_grown)
  · have ha' : 0 ≤ after := by omega
    have HE := Lib.hid (show Bk.arm d after keep which cut = ({ d with lit := true, after := after, torn := which, cut := cut, keep := keep }, 0) by unfold Bk.arm; rw [if_neg ha])
    clear ha
    go_enter Tryz.func71, Tryz.ntmps71
    go_wp2_with fail
    rw [HE.out]
    refine bodyPost_ret (v := .tuple #[refD { d with lit := true, after := after, torn := which, cut := cut, keep := keep } (.slice la xs.length lc) (.slice wa ys.length wc) (.slice ka2 keep.length kc2), .int .i64 0]) (by simp [results, Tryz.results71, go_sem, refD]) rfl ?_
    exact GivesRC.of (H.out.newKeep (d' := { d with lit := true, after := after, torn := which, cut := cut, keep := keep }) rfl rfl HK.out HKG.out) HG.out (by go_grown)
end Go.Proofs.YtflbioiildndoaaGreatDoor

/- the document's disks: Crash -/
namespace Go.Proofs.YtflbioiildndoaaGreatDoor
open Go.RowKit
set_option linter.unusedVariables false
set_option linter.unusedSimpArgs false

/-- lasting blocks by value -/
structure LastR (G : Nat → Prop) (w : World) (lv : Value) (xs : List Sl3) (L : List Bk.Blk) : Prop where
  row : RowAt eSl w lv xs
  inG : InG G lv
  len : xs.length = L.length
  each : ∀ (i : Nat) x b, xs[i]? = some x → L[i]? = some b → BytesAt w (.slice x.1 x.2.1 x.2.2) b ∧ InG G (.slice x.1 x.2.1 x.2.2)
theorem DiskR.lastR {G : Nat → Prop} {w : World} {d : Bk.Disk} {lv wv kv : Value} {xs : List Sl3} {ys : List (Int × Sl3)} (h : DiskR G w d lv wv kv xs ys) : LastR G w lv xs d.lasting := ⟨h.last, h.lastG, h.xlen, h.xeach⟩
theorem LastR.below {G : Nat → Prop} {w w' : World} {lv : Value} {xs : List Sl3} {L : List Bk.Blk} (h : LastR G w lv xs L) (hb : Below w.heap.size w w') : LastR G w' lv xs L :=
  ⟨h.row.below hb, h.inG, h.len, fun i x b hx hl => ⟨(h.each i x b hx hl).1.below hb, (h.each i x b hx hl).2⟩⟩
theorem LastR.mono {G G' : Nat → Prop} {w : World} {lv : Value} {xs : List Sl3} {L : List Bk.Blk} (h : LastR G w lv xs L) (hg : ∀ k, G k → G' k) : LastR G' w lv xs L :=
  ⟨h.row, h.inG.mono hg, h.len, fun i x b hx hl => ⟨(h.each i x b hx hl).1, (h.each i x b hx hl).2.mono hg⟩⟩
/-- another block at a place -/
theorem LastR.set {G G' : Nat → Prop} {w w' : World} {lv lv' : Value} {xs : List Sl3} {L : List Bk.Blk} (h : LastR G w lv xs L) (hb : Below w.heap.size w w') (hg : ∀ k, G k → G' k) {i : Nat} {x : Sl3} {b : Bk.Blk} (ho : RowAt eSl w' lv' (xs.set i x)) (hlv : InG G' lv')
    (hx : BytesAt w' (.slice x.1 x.2.1 x.2.2) b) (hxG : InG G' (.slice x.1 x.2.1 x.2.2)) : LastR G' w' lv' (xs.set i x) (L.set i b) := by
  refine ⟨ho, hlv, by simp [h.len], fun j y c hy hc => ?_⟩
  rw [List.getElem?_set] at hy hc
  by_cases hj : i = j
  · rw [if_pos hj] at hy hc
    split at hy
    · split at hc
      · cases hy; cases hc; exact ⟨hx, hxG⟩
      · cases hc
    · cases hy
  · rw [if_neg hj] at hy hc
    obtain ⟨h1, h2⟩ := h.each j y c hy hc
    exact ⟨h1.below hb, h2.mono hg⟩
theorem LastR.cell {G : Nat → Prop} {w : World} {lv : Value} {xs : List Sl3} {L : List Bk.Blk} (h : LastR G w lv xs L) {i : Nat} {b : Bk.Blk} (hi : L[i]? = some b) : ∃ (lg lo lc : Nat) (x : Sl3), lv = .slice (some ⟨lg, lo, none⟩) xs.length lc ∧ xs.length ≤ lc ∧ lc ≤ maxLen ∧ i < xs.length ∧ w.cell? ⟨lg, lo + i, none⟩ = some (.slice x.1 x.2.1 x.2.2) ∧ BytesAt w (.slice x.1 x.2.1 x.2.2) b ∧ InG G (.slice x.1 x.2.1 x.2.2) := by
  have hl : i < xs.length := by rw [h.len]; exact (List.getElem?_eq_some_iff.1 hi).1
  obtain ⟨a, c, e, h1, h2, h3⟩ := h.row
  rcases h3 with h3 | ⟨g, o, rfl, hc⟩
  · rw [h3] at hl; simp at hl
  · obtain ⟨x, hx⟩ := getElem?_some_of_lt hl
    have hcell := hc i x hx 0 _ rfl
    simp only [Nat.mul_one, Nat.add_zero] at hcell
    obtain ⟨g1, g2⟩ := h.each i x b hx hi
    exact ⟨g, o, c, x, e, h1, h2, hl, hcell, g1, g2⟩
theorem more_own {α : Type} {E : Elem α} {G : Nat → Prop} {w w1 w' : World} {v : Value} {l : List α} (h : OwnR E w' w1.heap.size v l) (hw : w.heap.size ≤ w1.heap.size) : InG (More G w w') v := fun k hk => .inr ⟨Nat.le_trans hw (h.lt k hk).1, (h.lt k hk).2⟩
theorem more_bytes {G : Nat → Prop} {w w1 w' : World} {v : Value} {l : List UInt8} (h : Own w' w1.heap.size v l) (hw : w.heap.size ≤ w1.heap.size) : InG (More G w w') v := fun k hk => .inr ⟨Nat.le_trans hw (h.lt k hk).1, (h.lt k hk).2⟩
theorem More.grow {G : Nat → Prop} {w w1 w2 : World} (h : w1.heap.size ≤ w2.heap.size) : ∀ k, More G w w1 k → More G w w2 k := fun k hk => hk.imp id fun ⟨a, b⟩ => ⟨a, Nat.lt_of_lt_of_le b h⟩
def CrashR (G : Nat → Prop) (w : World) (L : List Bk.Blk) (lv : Value) (wr : World) : Prop := (∃ xs, LastR (More G w wr) wr lv xs L) ∧ Below w.heap.size w wr
theorem CrashR.below {G : Nat → Prop} {w wr wr' : World} {L : List Bk.Blk} {lv : Value} (h : CrashR G w L lv wr) (hb : Below wr.heap.size wr wr') : CrashR G w L lv wr' := by
  obtain ⟨⟨xs, h1⟩, h2⟩ := h
  exact ⟨⟨xs, (h1.below hb).mono (More.grow hb.size)⟩, h2.trans (hb.mono h2.size)⟩
theorem DiskR.below {G : Nat → Prop} {w w' : World} {d : Bk.Disk} {lv wv kv : Value} {xs : List Sl3} {ys : List (Int × Sl3)} (h : DiskR G w d lv wv kv xs ys) (hG : Held G w) (hb : Below w.heap.size w w') : DiskR G w' d lv wv kv xs ys := h.on fun k hk => hb.block k (hG k hk)
theorem GivesR.late {G : Nat → Prop} {w W wr w' : World} {d : Bk.Disk} {lv wv kv : Value} {xs : List Sl3} {ys : List (Int × Sl3)} (h : DiskR (More G W wr) wr d lv wv kv xs ys) (hG : Held G w) (hb : Below w.heap.size w W) (hb1 : Below W.heap.size W wr) (hb2 : Below w.heap.size wr w') (hsafe : ∀ k, More G W wr k → w'.heap[k]? = wr.heap[k]?) : GivesR G w d (.returned (refD d lv wv kv)) w' ∧ Below w.heap.size w w' :=
  ⟨⟨_, rfl, _, _, _, _, _, rfl, (h.on hsafe).mono (fun k hk => hk.imp id fun ⟨x, y⟩ => ⟨Nat.le_trans hb.size x, Nat.lt_of_lt_of_le y hb2.size⟩)⟩, (hb.trans (hb1.mono hb.size)).trans hb2⟩
set_option maxRecDepth 100000 in
set_option maxHeartbeats 1000000 in
theorem refCrash4 {G : Nat → Prop} {w : World} {n : Nat} {d : Bk.Disk} {v : Value} (hr : RefAt G w v d) (ho : Bk.Ok n d) (hG : Held G w) (which cut : Int) (keepV : Value) (keep : List Bool) (hk : RowAt eBool w keepV keep) :
    Calls Tryz.prog 80 #[v, keepV, .int .i64 which, .int .i64 cut] w fun e w' => GivesR G w (Bk.crash d keep which cut) e w' ∧ Below w.heap.size w w' := by
  obtain ⟨lv, wv, kv, xs, ys, rfl, h⟩ := hr
  obtain ⟨la, lc, wa0, wc0, ka, kc, rfl, ew, rfl⟩ := h.shape
  obtain ⟨wa, wc, rfl, hwl, hwm, hwait⟩ := h.waitRow
  obtain ⟨ka2, kc2, rfl, hkc, hkm, hkx⟩ := id hk
  unfold maxLen at hwm hkm
  have H := Lib.hid h
  have HG := Lib.hid hG
  have HOK := Lib.hid ho
  have HW := Lib.hid hwait
  have HKX := Lib.hid hkx
  have hsz := ho.s
  have hbb := ho.b
  clear h hG hk ho hwait hkx ew wa0 wc0
  unfold refD
  go_enter Tryz.func80, Tryz.ntmps80
  go_upto_region 1 with fail
  refine wp_name fun W hW => ?_
  have HX := Lib.hid (show BoxAt W w.heap.size (cellsD d (.slice la xs.length lc) (.slice wa d.waiting.length wc) (.slice ka d.keep.length kc)) by rw [hW]; exact (BoxAt.new w (cellsD _ _ _ _) _).alloc _)
  have HY := Lib.hid (show BoxAt W (w.heap.size + 1) [.int .i64 0, .int .i64 0, .slice none 0 0, .slice none 0 0, .bool false, .int .i64 0, .int .i64 0, .int .i64 0, .slice none 0 0, .bool false, .int .i64 0] by rw [hW]; exact BoxAt.newAt _ _ (by simp) [_, _, _, _, _, _, _, _, _, _, _] _)
  have HB := Lib.hid (show Below w.heap.size w W by rw [hW]; go_grown)
  clear hW
  obtain ⟨-, -, m2, m3, -⟩ := HX.out.eleven
  go_wp2_with fail
  go_loopw [9, 10] (fun l i wr => ∃ k : Nat, k ≤ d.waiting.length ∧ i = .int .i64 (k : Int) ∧ CrashR G W (Bk.crashK keep which cut d.waiting d.lasting k) l wr) (fun _ i _ => d.waiting.length - (intOf i).toNat)
  case atStart => exact ⟨0, Nat.zero_le _, rfl, ⟨xs, (H.out.lastR.below HB.out).mono fun k hk => .inl hk⟩, Below.refl _ _⟩
  case round =>
    obtain ⟨k, hk, rfl, hc⟩ := hrel
    have HC := Lib.hid hc
    have HBW := Lib.hid hc.2
    have HBR := Lib.hid (HB.out.trans (hc.2.mono HB.out.size))
    clear hc m2 m3
    obtain ⟨-, -, m2, m3, -⟩ := (HX.out.below HBW.out).eleven
    by_cases hlt : k < d.waiting.length
    · obtain ⟨z, hz⟩ := getElem?_some_of_lt hlt
      obtain ⟨wg, wo, y, rfl, hy, c0, c1, g1, g2⟩ := HW.out k z hz
      have hbr := HBR.out
      have c0' := (hbr.cell (World.block_lt_of_cell? w _ c0)).trans c0
      have c1' := (hbr.cell (World.block_lt_of_cell? w _ c1)).trans c1
      have HYB := Lib.hid (g1.below hbr)
      have HYG := Lib.hid g2
      have hlt1 : (k : Int) < (d.waiting.length : Int) := by omega
      have hk0 : (0 : Int) ≤ (k : Int) := by omega
      have hzb := HOK.out.wait k z hz
      have HZ := Lib.hid hz
      clear hz hy c0 c1 g1 g2 hbr
      go_upto_region 6 with fail
      obtain ⟨old, hold⟩ : ∃ old, (Bk.crashK keep which cut d.waiting d.lasting k)[z.1]? = some old := getElem?_some_of_lt (by
        have := (Bk.crashK_row HOK.out.row keep which cut HOK.out.wait k).1; omega)
      have holdl : old.length = d.size := (Bk.crashK_row HOK.out.row keep which cut HOK.out.wait k).2 _ _ hold
      have hb0 : (0 : Int) ≤ (z.1 : Int) := by omega
      obtain ⟨⟨xs', hl'⟩, -⟩ := HC.out
      obtain ⟨lg, lo, lc2, x, rfl, hl1, hl2, hzl, lcell, lby, lG⟩ := hl'.cell hold
      unfold maxLen at hl2
      have hb1 : (z.1 : Int) < (xs'.length : Int) := by omega
      have hxl : xs'.length ≤ 256 := by rw [hl'.len, (Bk.crashK_row HOK.out.row keep which cut HOK.out.wait k).1]; omega
      have HLR := Lib.hid hl'
      have HLB := Lib.hid lby
      have HOLD := Lib.hid hold
      have HOL := Lib.hid holdl
      clear hl' lby lG hold holdl
      have hzs := hzb.2
      by_cases hkw : (k : Int) = which
      · obtain rfl : which = (k : Int) := hkw.symm
        clear hkw
        go_upto_region 7 with fail
        obtain ⟨R, hR⟩ : ∃ R, Bk.tornB old z.2 cut = R := ⟨_, rfl⟩
        have HR := Lib.hid hR
        clear hR
        have n3 := Near.cell (w := wr.drew) (row := none) m3 (by simp)
        have n4 := Near.cell (w := wr.drew) (row := none) lcell (by simp)
        have n5 := Near.cell (w := wr.drew) (row := none) c1' (by simp)
        refine wp_region_mix (fun w' => ∃ x : Near wr.drew none, w' = x.world) [] 16 (by kernel_rfl) rfl ?_
        refine mix_reads_lit [0, 1, 2, 3, 4, 5, 6, 7, 8, 9, 10, 11, 12] 3 (by kernel_rfl) (by kernel_rfl) (by kernel_rfl) (by kernel_rfl) rfl (NearC.of (World.grownBy.refl _ _)) ?_
        simp only [pick, List.filterMap_cons, List.filterMap_nil, List.getElem?_cons_succ, List.getElem?_cons_zero]
        repeat (first | go_big_quiet_step (fail) | quiet_step (fail))
        refine wpQuiet_nil ?_
        refine mix_deed_lit 13 2 (by kernel_rfl) (by kernel_rfl) rfl (fun K hK => ?_)
        simp only [comesUp, List.getElem?_cons_succ, List.getElem?_cons_zero]
        refine if_mk rfl ?_
        go_simp
        refine (refTorn4_is _ _ old z.2 cut R HR.out _ (HLB.out.below (Below.refl _ _).drew) (HYB.out.below (Below.refl _ _).drew) (by have := HOL.out; omega) (by have := HOL.out; omega)).mono ?_
        rintro e w2 ⟨⟨v2, rfl, ho2⟩, hb2⟩
        obtain ⟨a2, c2, rfl, -, -⟩ := ho2.slice
        refine hK _ _ (fun _ _ => NearC.of (grown_of_below hb2 (Nat.le_refl _) _)) ?_
        clear hK K
        refine mix_deed_lit 14 1 (by kernel_rfl) (by kernel_rfl) rfl (fun K hK => ?_)
        simp only [comesUp, List.getElem?_cons_succ, List.getElem?_cons_zero]
        refine if_mk rfl ?_
        go_simp
        refine (refWith_any _ xs' z.1 (a2, R.length, c2) _ (HLR.out.row.below ((Below.refl _ _).drew.trans hb2)) hzl (by omega)).mono ?_
        rintro e w3 ⟨⟨v3, rfl, ho3⟩, hb3⟩
        refine hK _ _ (fun _ _ => NearC.of (grown_of_below (below_step hb2 hb3) (Nat.le_refl _) _)) ?_
        clear hK K
        refine mix_flat_lit [15] 0 (by kernel_rfl) (by kernel_rfl) (by kernel_rfl) (by kernel_rfl) rfl ?_
        simp only [pick, List.filterMap_cons, List.filterMap_nil, List.getElem?_cons_succ, List.getElem?_cons_zero]
        repeat (first | go_big_quiet_step (fail) | quiet_step (fail))
        refine wpQuiet_nil ?_
        refine mix_done_lit (by kernel_rfl) ?_
        have hb23 : Below wr.heap.size wr w3 := (Below.refl _ _).drew.trans ((below_step hb2 hb3).mono (Nat.le_refl _))
        have hbw3 : Below W.heap.size W w3 := HBW.out.trans (hb23.mono HBW.out.size)
        have hwr := HBW.out.size
        have hw2 : W.heap.size ≤ w2.heap.size := Nat.le_trans hwr hb2.size
        have hnew : CrashR G W (Bk.crashK keep (k : Int) cut d.waiting d.lasting (k + 1)) v3 w3 := by
          rw [Bk.crashK, HZ.out]
          simp only
          unfold Bk.crash1
          rw [if_pos rfl, show (Bk.crashK keep (k : Int) cut d.waiting d.lasting k).getD z.1 [] = old by rw [List.getD_eq_getElem?_getD, HOLD.out]; rfl, HR.out]
          refine ⟨⟨_, HLR.out.set hb23 (More.grow hb23.size) (x := (a2, R.length, c2)) (ho3.at eSl_ok) (more_own ho3 hw2) (ho2.bytes.below hb3) ?_⟩, hbw3⟩
          exact (more_bytes ho2 (w1 := wr.drew) hwr).mono (More.grow hb3.size)
        have HN := Lib.hid hnew
        clear hnew hb23 hbw3 hw2 ho2 ho3 hb2 hb3 n3 n4 n5 m2 m3 c0' c1' lcell
        go_wp2_with fail
        go_roundw
        case rel => exact ⟨k + 1, by omega, by go_num, HN.out⟩
        case measure => simp [intOf]; omega
      · have e1 : ((k : Int) == which) = false := by simpa using hkw
        have HNE := Lib.hid hkw
        clear hkw
        by_cases hkl : k < keep.length
        · obtain ⟨b, hb⟩ := getElem?_some_of_lt hkl
          obtain ⟨kb, ko, rfl, kcell⟩ : ∃ kb o, ka2 = some ⟨kb, o, none⟩ ∧ w.cell? ⟨kb, o + k, none⟩ = some (.bool b) := by
            rcases HKX.out with h6 | ⟨kb, o, rfl, hc⟩
            · rw [h6] at hkl; simp at hkl
            · have := hc k b hb 0 (.bool b) rfl
              simp only [Nat.mul_one, Nat.add_zero] at this
              exact ⟨kb, o, rfl, this⟩
          have kcell' := (HBR.out.cell (World.block_lt_of_cell? w _ kcell)).trans kcell
          have hkl1 : (k : Int) < (keep.length : Int) := by omega
          have HB2 := Lib.hid hb
          clear hb kcell
          cases b with
          | false =>
            have hnew : CrashR G W (Bk.crashK keep which cut d.waiting d.lasting (k + 1)) (.slice (some ⟨lg, lo, none⟩) xs'.length lc2) wr := by
              rw [Bk.crashK, HZ.out]
              simp only
              unfold Bk.crash1
              rw [if_neg HNE.out, if_neg (by rw [List.getD_eq_getElem?_getD, HB2.out]; simp)]
              exact ⟨⟨_, HLR.out⟩, HBW.out⟩
            have HN := Lib.hid hnew
            clear hnew
            go_wp2_with fail
            go_roundw
            case rel => exact ⟨k + 1, by omega, by go_num, HN.out⟩
            case measure => simp [intOf]; omega
          | true =>
            go_upto_region 4 with (go_at_call 92; (refine (refWith_any _ xs' z.1 y _ HLR.out.row hzl (by omega)).mono ?_); (rintro e w3 ⟨⟨v3, rfl, ho3⟩, hb3⟩))
            have hnew : CrashR G W (Bk.crashK keep which cut d.waiting d.lasting (k + 1)) v3 w3 := by
              rw [Bk.crashK, HZ.out]
              simp only
              unfold Bk.crash1
              rw [if_neg HNE.out, if_pos (by rw [List.getD_eq_getElem?_getD, HB2.out]; rfl)]
              refine ⟨⟨_, HLR.out.set hb3 (More.grow hb3.size) (x := y) (ho3.at eSl_ok) (more_own ho3 HBW.out.size) (HYB.out.below hb3) (HYG.out.mono fun k hk => .inl hk)⟩, HBW.out.trans (hb3.mono HBW.out.size)⟩
            have HN := Lib.hid hnew
            clear hnew ho3 hb3 m2 m3 c0' c1' lcell kcell'
            go_wp2_with fail
            go_roundw
            case rel => exact ⟨k + 1, by omega, by go_num, HN.out⟩
            case measure => simp [intOf]; omega
        · have hkl1 : (keep.length : Int) ≤ (k : Int) := by omega
          have HKL := Lib.hid (show keep[k]? = none from List.getElem?_eq_none (by omega))
          clear hkl
          have hnew : CrashR G W (Bk.crashK keep which cut d.waiting d.lasting (k + 1)) (.slice (some ⟨lg, lo, none⟩) xs'.length lc2) wr := by
            rw [Bk.crashK, HZ.out]
            simp only
            unfold Bk.crash1
            rw [if_neg HNE.out, if_neg (by rw [List.getD_eq_getElem?_getD, HKL.out]; simp)]
            exact ⟨⟨_, HLR.out⟩, HBW.out⟩
          have HN := Lib.hid hnew
          clear hnew
          go_wp2_with fail
          go_roundw
          case rel => exact ⟨k + 1, by omega, by go_num, HN.out⟩
          case measure => simp [intOf]; omega
    · obtain rfl : k = d.waiting.length := by omega
      obtain ⟨⟨xs', hl'⟩, -⟩ := HC.out
      obtain ⟨la', lc', rfl, -, -, -⟩ := id hl'.row
      have HLR := Lib.hid hl'
      clear hl' hlt
      have hbx := HX.out.below HBW.out
      have hby := HY.out.below HBW.out
      clear m2 m3
      obtain ⟨x0, x1, x2, x3, x4, x5, x6, x7, x8, x9, x10⟩ := hbx.eleven
      obtain ⟨fx0, fx1, fx2, fx3, fx4, fx5, fx6, fx7, fx8, fx9, fx10⟩ := hbx.elevenF
      obtain ⟨y0, y1, y2, y3, y4, y5, y6, y7, y8, y9, y10⟩ := hby.eleven
      obtain ⟨fy0, fy1, fy2, fy3, fy4, fy5, fy6, fy7, fy8, fy9, fy10⟩ := hby.elevenF
      have hplt := hby.lt
      clear hbx hby
      go_wp2_with fail
      refine bodyPost_ret (v := refD (Bk.crash d keep which cut) (.slice la' xs'.length lc') (.slice none 0 0) (.slice ka d.keep.length kc)) (by simp [results, Tryz.results80, go_sem, refD, Bk.crash, y0, y1, y2, y3, y4, y5, y6, y7, y8, y9, y10]) rfl ?_
      have hd : DiskR (More G W wr) wr (Bk.crash d keep which cut) (.slice la' xs'.length lc') (.slice none 0 0) (.slice ka d.keep.length kc) xs' [] :=
        (((H.out.below HG.out HB.out).below (fun k hk => Nat.lt_of_lt_of_le (HG.out k hk) HB.out.size) HBW.out).mono (fun k hk => (.inl hk : More G W wr k))).newLast HLR.out.row HLR.out.inG HLR.out.len HLR.out.each rfl rfl
      have hW2 : w.heap.size + 1 < W.heap.size := HY.out.lt
      refine GivesR.late hd HG.out HB.out HBW.out ?_ fun k hk => ?_
      · repeat (first | refine Below.setCell ?_ (by first | exact Nat.le_refl _ | exact Nat.le_succ _) _ | exact Below.refl _ _)
      · have h0 : w.heap.size ≠ k := by rcases hk with h | h; (have := HG.out k h; omega); omega
        have h1 : w.heap.size + 1 ≠ k := by rcases hk with h | h; (have := HG.out k h; omega); omega
        repeat (first | rw [heap_set_ne h1] | rw [heap_set_ne h0])
end Go.Proofs.YtflbioiildndoaaGreatDoor

/- the document's disks: all, burns, Flush, Put, Corrupt, New -/
namespace Go.Proofs.YtflbioiildndoaaGreatDoor
open Go.RowKit
set_option linter.unusedVariables false
set_option linter.unusedSimpArgs false

theorem GivesRC.late {G : Nat → Prop} {w W wr w' : World} {d : Bk.Disk} {k : Nat} {lv wv kv : Value} {xs : List Sl3} {ys : List (Int × Sl3)} (h : DiskR (More G W wr) wr d lv wv kv xs ys) (hG : Held G w) (hb : Below w.heap.size w W) (hb1 : Below W.heap.size W wr) (hb2 : Below w.heap.size wr w') (hsafe : ∀ k, More G W wr k → w'.heap[k]? = wr.heap[k]?) : GivesRC G w d k (.returned (.tuple #[refD d lv wv kv, .int .i64 (k : Int)])) w' ∧ Below w.heap.size w w' :=
  ⟨⟨_, rfl, _, _, _, _, _, rfl, (h.on hsafe).mono (fun k hk => hk.imp id fun ⟨x, y⟩ => ⟨Nat.le_trans hb.size x, Nat.lt_of_lt_of_le y hb2.size⟩)⟩, (hb.trans (hb1.mono hb.size)).trans hb2⟩
set_option maxRecDepth 100000 in
set_option maxHeartbeats 1000000 in
theorem refBurns4_tick {G : Nat → Prop} {w : World} {d : Bk.Disk} {v : Value} (hr : RefAt G w v d) (hG : Held G w) (hb : ¬ Bk.blows d) :
    Calls Tryz.prog 52 #[v] w fun e w' => GivesRC G w (Bk.ticked d) 0 e w' ∧ Below w.heap.size w w' := by
  obtain ⟨lv, wv, kv, xs, ys, rfl, h⟩ := hr
  obtain ⟨la, lc, wa, wc, ka, kc, rfl, rfl, rfl⟩ := h.shape
  have H := Lib.hid h
  have HG := Lib.hid hG
  have HB := Lib.hid hb
  clear h hG hb
  unfold refD
  cases hl : d.lit with
  | false =>
    have HL := Lib.hid hl
    clear hl
    go_enter Tryz.func52, Tryz.ntmps52
    go_wp2_with fail
    simp only [wrap64_is]
    refine bodyPost_ret (v := .tuple #[refD (Bk.ticked d) (.slice la xs.length lc) (.slice wa ys.length wc) (.slice ka d.keep.length kc), .int .i64 0]) (by simp [results, Tryz.results52, go_sem, refD, Bk.ticked, HL.out]) rfl ?_
    exact GivesRC.of (H.out.as (d' := Bk.ticked d) rfl rfl rfl) HG.out (by go_grown)
  | true =>
    have hne : (d.after == 0) = false := by have := HB.out; unfold Bk.blows at this; simp [hl] at this; simpa using this
    have HL := Lib.hid hl
    clear hl
    go_enter Tryz.func52, Tryz.ntmps52
    go_wp2_with fail
    simp only [wrap64_is]
    refine bodyPost_ret (v := .tuple #[refD (Bk.ticked d) (.slice la xs.length lc) (.slice wa ys.length wc) (.slice ka d.keep.length kc), .int .i64 0]) (by simp [results, Tryz.results52, go_sem, refD, Bk.ticked, HL.out]) rfl ?_
    exact GivesRC.of (H.out.as (d' := Bk.ticked d) rfl rfl rfl) HG.out (by go_grown)
set_option maxRecDepth 100000 in
set_option maxHeartbeats 1000000 in
theorem refBurns4_blow {G : Nat → Prop} {w : World} {n : Nat} {d : Bk.Disk} {v : Value} (hr : RefAt G w v d) (ho : Bk.Ok n d) (hG : Held G w) (hb : Bk.blows d) :
    Calls Tryz.prog 52 #[v] w fun e w' => GivesRC G w (Bk.blown d) 7 e w' ∧ Below w.heap.size w w' := by
  have HR := Lib.hid hr
  obtain ⟨lv, wv, kv, xs, ys, rfl, h⟩ := hr
  obtain ⟨la, lc, wa, wc, ka, kc, rfl, rfl, rfl⟩ := h.shape
  obtain ⟨hlit, haft⟩ := hb
  have H := Lib.hid h
  have HG := Lib.hid hG
  have HO := Lib.hid ho
  have HV := Lib.hid (show refD d (.slice la xs.length lc) (.slice wa ys.length wc) (.slice ka d.keep.length kc) = .agg #[.int .i64 (d.blocks : Int), .int .i64 (d.size : Int), .slice la xs.length lc, .slice wa ys.length wc, .bool true, .int .i64 0, .int .i64 d.torn, .int .i64 d.cut, .slice ka d.keep.length kc, .bool d.off, .int .i64 d.count] by unfold refD; rw [hlit, haft])
  clear h hG ho
  rw [HV.out]
  clear hlit haft
  go_enter Tryz.func52, Tryz.ntmps52
  go_upto_region 2 with fail
  refine wp_name fun W hW => ?_
  have HX := Lib.hid (show BoxAt W w.heap.size [.int .i64 (d.blocks : Int), .int .i64 (d.size : Int), .slice la xs.length lc, .slice wa ys.length wc, .bool true, .int .i64 0, .int .i64 d.torn, .int .i64 d.cut, .slice ka d.keep.length kc, .bool d.off, .int .i64 d.count] by rw [hW]; exact (BoxAt.new w [_, _, _, _, _, _, _, _, _, _, _] _).alloc _)
  have HY := Lib.hid (show BoxAt W (w.heap.size + 1) [.int .i64 0, .int .i64 0, .slice none 0 0, .slice none 0 0, .bool false, .int .i64 0, .int .i64 0, .int .i64 0, .slice none 0 0, .bool false, .int .i64 0] by rw [hW]; exact BoxAt.newAt _ _ (by simp) [_, _, _, _, _, _, _, _, _, _, _] _)
  have HB := Lib.hid (show Below w.heap.size w W by rw [hW]; go_grown)
  clear hW
  obtain ⟨x0, x1, x2, x3, x4, x5, x6, x7, x8, x9, x10⟩ := HX.out.eleven
  have hGW : Held G W := fun k hk => Nat.lt_of_lt_of_le (HG.out k hk) HB.out.size
  have hRW : RefAt G W (refD d (.slice la xs.length lc) (.slice wa ys.length wc) (.slice ka d.keep.length kc)) d := HR.out.below HG.out HB.out
  rw [HV.out] at hRW
  have HRW := Lib.hid hRW
  have HGW := Lib.hid hGW
  have HKW := Lib.hid (H.out.keep.below HB.out)
  clear hRW hGW
  go_upto_region 3 with (go_at_call 80; (refine (refCrash4 HRW.out HO.out HGW.out d.torn d.cut _ d.keep HKW.out).mono ?_); (rintro e w2 ⟨⟨v2, rfl, hr2⟩, hb2⟩); (obtain ⟨lv2, wv2, kv2, xs2, ys2, rfl, h2⟩ := hr2); (obtain ⟨la2, lc2, wa2, wc2, ka2, kc2, rfl, rfl, rfl⟩ := h2.shape); (have H2 := Lib.hid h2); (have HB2 := Lib.hid hb2); (clear h2 hb2); (unfold refD))
  go_upto_region 3 with fail
  refine wp_name fun V hV => ?_
  obtain ⟨b4, hb4⟩ : ∃ b4, w2.heap.size = b4 := ⟨_, rfl⟩
  have HZ := Lib.hid (show BoxAt V b4 (cellsD (Bk.crash d d.keep d.torn d.cut) (.slice la2 xs2.length lc2) (.slice wa2 ys2.length wc2) (.slice ka2 (Bk.crash d d.keep d.torn d.cut).keep.length kc2)) by rw [hV]; exact BoxAt.newAt _ _ hb4 [_, _, _, _, _, _, _, _, _, _, _] _)
  have HYV := Lib.hid (show BoxAt V (w.heap.size + 1) _ by rw [hV]; exact (HY.out.below HB2.out).alloc _)
  have HBV := Lib.hid (show Below w2.heap.size w2 V by rw [hV]; exact (Below.refl _ _).alloc (Nat.le_refl _) _)
  have hlt4 : w.heap.size + 1 < b4 := by rw [← hb4]; exact Nat.lt_of_lt_of_le HY.out.lt HB2.out.size
  have HB4 := Lib.hid hb4
  rw [hb4]
  clear hV hb4 x0 x1 x2 x3 x4 x5 x6 x7 x8 x9 x10
  obtain ⟨z0, z1, z2, z3, z4, z5, z6, z7, z8, z9, z10⟩ := HZ.out.eleven
  obtain ⟨fz0, fz1, fz2, fz3, fz4, fz5, fz6, fz7, fz8, fz9, fz10⟩ := HZ.out.elevenF
  go_upto_region 5 with fail
  refine wp_name fun U hU => ?_
  have h6 := (((((HZ.out.put 4 (.bool false)).put 5 (.int .i64 0)).put 6 (.int .i64 0)).put 7 (.int .i64 0)).put 8 (.slice none 0 0)).put 9 (.bool true)
  have e6 : ((((((cellsD (Bk.crash d d.keep d.torn d.cut) (.slice la2 xs2.length lc2) (.slice wa2 ys2.length wc2) (.slice ka2 (Bk.crash d d.keep d.torn d.cut).keep.length kc2)).set 4 (.bool false)).set 5 (.int .i64 0)).set 6 (.int .i64 0)).set 7 (.int .i64 0)).set 8 (.slice none 0 0)).set 9 (.bool true) = cellsD (Bk.blown d) (.slice la2 xs2.length lc2) (.slice wa2 ys2.length wc2) (.slice none 0 0) := by
    simp [cellsD, Bk.blown]
  rw [e6] at h6
  have HZU := Lib.hid (show BoxAt U b4 (cellsD (Bk.blown d) (.slice la2 xs2.length lc2) (.slice wa2 ys2.length wc2) (.slice none 0 0)) by rw [hU]; exact h6)
  have hgu : V.grownBy U (some b4) := by
    rw [hU]
    repeat (first | refine grownBy_set ?_ _ _ | exact World.grownBy.refl _ _)
  have HGU := Lib.hid hgu
  have HYU := Lib.hid (HYV.out.grownR hgu (by simp; omega))
  clear hU h6 e6 hgu z0 z1 z2 z3 z4 z5 z6 z7 z8 z9 z10 fz0 fz1 fz2 fz3 fz4 fz5 fz6 fz7 fz8 fz9 fz10
  obtain ⟨z0, z1, z2, z3, z4, z5, z6, z7, z8, z9, z10⟩ := HZU.out.eleven
  obtain ⟨y0, y1, y2, y3, y4, y5, y6, y7, y8, y9, y10⟩ := HYU.out.eleven
  obtain ⟨fy0, fy1, fy2, fy3, fy4, fy5, fy6, fy7, fy8, fy9, fy10⟩ := HYU.out.elevenF
  go_wp2_with fail
  refine bodyPost_ret (v := .tuple #[refD (Bk.blown d) (.slice la2 xs2.length lc2) (.slice wa2 ys2.length wc2) (.slice none 0 0), .int .i64 7]) (by simp [results, Tryz.results52, go_sem, refD, y0, y1, y2, y3, y4, y5, y6, y7, y8, y9, y10]) rfl ?_
  have hGm : ∀ k, More G W w2 k → k ≠ b4 ∧ k < w2.heap.size := fun k hk => by
    have := HB4.out
    rcases hk with h | h
    · have h1 := HG.out k h
      have h2 := HB2.out.size
      have h3 := HB.out.size
      omega
    · omega
  have hU2 : ∀ k, More G W w2 k → U.heap[k]? = w2.heap[k]? := fun k hk => by
    obtain ⟨h1, h2⟩ := hGm k hk
    rw [HGU.out.block k (Nat.lt_of_lt_of_le h2 HBV.out.size) (by simpa using h1), HBV.out.block k h2]
  have hDU : DiskR (More G W U) U (Bk.blown d) (.slice la2 xs2.length lc2) (.slice wa2 ys2.length wc2) (.slice none 0 0) xs2 ys2 :=
    ((H2.out.on hU2).mono (More.grow (Nat.le_trans HBV.out.size HGU.out.size))).noKeep (d' := Bk.blown d) rfl rfl rfl
  have hBU : Below W.heap.size W U := by
    refine (HB2.out.trans (HBV.out.mono HB2.out.size)).grown HGU.out (Nat.le_trans HB2.out.size HBV.out.size) (fun k hk => ?_)
    cases hk
    have := HB4.out
    have := HB2.out.size
    omega
  refine GivesRC.late hDU HG.out HB.out hBU ?_ fun k hk => ?_
  · repeat (first | refine Below.setCell ?_ (Nat.le_succ _) _ | exact Below.refl _ _)
  · have h1 : w.heap.size + 1 ≠ k := by
      have h3 := HY.out.lt
      rcases hk with h | h
      · have := HG.out k h; omega
      · omega
    repeat (first | rw [heap_set_ne h1])
end Go.Proofs.YtflbioiildndoaaGreatDoor

/- the document's disks: Flush, Put, Corrupt, New -/
namespace Go.Proofs.YtflbioiildndoaaGreatDoor
open Go.RowKit
set_option linter.unusedVariables false
set_option linter.unusedSimpArgs false

theorem fill11 {w : World} {r : Nat} {a0 a1 a2 a3 a4 a5 a6 a7 a8 a9 a10 : Value} (h : BoxAt w r [a0, a1, a2, a3, a4, a5, a6, a7, a8, a9, a10]) (v0 v1 v2 v3 v4 v5 v6 v7 v8 v9 v10 : Value) :
    BoxAt (((((((((((w.setCell ⟨r, 0, none⟩ v0).setCell ⟨r, 1, none⟩ v1).setCell ⟨r, 2, none⟩ v2).setCell ⟨r, 3, none⟩ v3).setCell ⟨r, 4, none⟩ v4).setCell ⟨r, 5, none⟩ v5).setCell ⟨r, 6, none⟩ v6).setCell ⟨r, 7, none⟩ v7).setCell ⟨r, 8, none⟩ v8).setCell ⟨r, 9, none⟩ v9).setCell ⟨r, 10, none⟩ v10) r [v0, v1, v2, v3, v4, v5, v6, v7, v8, v9, v10] ∧
    w.grownBy (((((((((((w.setCell ⟨r, 0, none⟩ v0).setCell ⟨r, 1, none⟩ v1).setCell ⟨r, 2, none⟩ v2).setCell ⟨r, 3, none⟩ v3).setCell ⟨r, 4, none⟩ v4).setCell ⟨r, 5, none⟩ v5).setCell ⟨r, 6, none⟩ v6).setCell ⟨r, 7, none⟩ v7).setCell ⟨r, 8, none⟩ v8).setCell ⟨r, 9, none⟩ v9).setCell ⟨r, 10, none⟩ v10) (some r) := by
  refine ⟨?_, ?_⟩
  · have h2 := ((((((((((h.put 0 v0).put 1 v1).put 2 v2).put 3 v3).put 4 v4).put 5 v5).put 6 v6).put 7 v7).put 8 v8).put 9 v9).put 10 v10
    simp only [List.set_cons_zero, List.set_cons_succ] at h2
    exact h2
  · repeat (first | refine grownBy_set ?_ _ _ | exact World.grownBy.refl _ _)
theorem GivesRC.fin {G G2 : Nat → Prop} {w wr w' : World} {d : Bk.Disk} {k : Nat} {lv wv kv : Value} {xs : List Sl3} {ys : List (Int × Sl3)} (h : DiskR G2 wr d lv wv kv xs ys) (hG2 : ∀ k, G2 k → More G w w' k) (hb : Below w.heap.size w w') (hsafe : ∀ k, G2 k → w'.heap[k]? = wr.heap[k]?) : GivesRC G w d k (.returned (.tuple #[refD d lv wv kv, .int .i64 (k : Int)])) w' ∧ Below w.heap.size w w' :=
  ⟨⟨_, rfl, _, _, _, _, _, rfl, (h.on hsafe).mono hG2⟩, hb⟩
theorem DiskR.at {G : Nat → Prop} {w : World} {d : Bk.Disk} {lv wv kv : Value} {xs : List Sl3} {ys : List (Int × Sl3)} (h : DiskR G w d lv wv kv xs ys) : RefAt G w (refD d lv wv kv) d := ⟨_, _, _, _, _, rfl, h⟩
abbrev zeroD : List Value := [.int .i64 0, .int .i64 0, .slice none 0 0, .slice none 0 0, .bool false, .int .i64 0, .int .i64 0, .int .i64 0, .slice none 0 0, .bool false, .int .i64 0]
theorem refBurns4_blow' {G : Nat → Prop} {w : World} {n : Nat} {d E : Bk.Disk} {v : Value} (hE : Bk.blown d = E) (hr : RefAt G w v d) (ho : Bk.Ok n d) (hG : Held G w) (hb : Bk.blows d) :
    Calls Tryz.prog 52 #[v] w fun e w' => GivesRC G w E 7 e w' ∧ Below w.heap.size w w' := by subst hE; exact refBurns4_blow hr ho hG hb
theorem refBurns4_tick' {G : Nat → Prop} {w : World} {d E : Bk.Disk} {v : Value} (hE : Bk.ticked d = E) (hr : RefAt G w v d) (hG : Held G w) (hb : ¬ Bk.blows d) :
    Calls Tryz.prog 52 #[v] w fun e w' => GivesRC G w E 0 e w' ∧ Below w.heap.size w w' := by subst hE; exact refBurns4_tick hr hG hb
end Go.Proofs.YtflbioiildndoaaGreatDoor
