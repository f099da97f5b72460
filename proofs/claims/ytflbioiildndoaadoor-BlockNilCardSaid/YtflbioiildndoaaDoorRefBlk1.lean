/- the document's disks: Right, In, With, Read, torn -/
import Derived.Test.YtflbioiildndoaaDoorBlock10
namespace Go.Proofs.YtflbioiildndoaaDoor
open Go.RowKit
set_option linter.unusedVariables false
set_option linter.unusedSimpArgs false

set_option maxRecDepth 100000 in
theorem refRight4_is (b s : Int) (B : Bool) (hB : rightG b s = B) (w : World) :
    Calls Tryd.prog 14 #[.agg #[.int .i64 b, .int .i64 s]] w fun e w' => e = .returned (.bool B) ∧ Below w.heap.size w w' := by
  cases B with
  | true =>
    obtain ⟨h1, h2, h3, h4⟩ := rightG_iff.1 hB
    clear hB
    go_enter Tryd.func14, Tryd.ntmps14
    go_wp2_with fail
    go_ret
    exact ⟨by first | rfl | exact ret_bool (by simp; omega), by go_grown⟩
  | false =>
    have hn := rightG_no.1 hB
    clear hB
    by_cases h1 : 8 ≤ b
    · by_cases h2 : b ≤ 256
      · by_cases h3 : 256 ≤ s
        · have h4 : 1024 < s := by omega
          clear hn
          go_enter Tryd.func14, Tryd.ntmps14
          go_wp2_with fail
          go_ret
          exact ⟨by first | rfl | exact ret_bool (by simp; omega), by go_grown⟩
        · have h4 : s < 256 := by omega
          clear hn h3
          go_enter Tryd.func14, Tryd.ntmps14
          go_wp2_with fail
          go_ret
          exact ⟨by first | rfl | exact ret_bool (by simp; omega), by go_grown⟩
      · have h4 : 256 < b := by omega
        clear hn h2
        go_enter Tryd.func14, Tryd.ntmps14
        go_wp2_with fail
        go_ret
        exact ⟨by first | rfl | exact ret_bool (by simp; omega), by go_grown⟩
    · have h4 : b < 8 := by omega
      clear hn h1
      go_enter Tryd.func14, Tryd.ntmps14
      go_wp2_with fail
      go_ret
      exact ⟨by first | rfl | exact ret_bool (by simp; omega), by go_grown⟩
set_option maxRecDepth 100000 in
theorem refIn4_is (d : Bk.Disk) (lv wv kv : Value) (i : Int) (B : Bool) (hB : decide (Bk.In d i) = B) (w : World) :
    Calls Tryd.prog 82 #[refD d lv wv kv, .int .i64 i] w fun e w' => e = .returned (.bool B) ∧ Below w.heap.size w w' := by
  unfold refD
  by_cases h0 : 0 ≤ i
  · by_cases h1 : i < d.blocks
    · obtain rfl : B = true := hB.symm.trans (decide_eq_true (show Bk.In d i from ⟨h0, h1⟩))
      clear hB
      go_enter Tryd.func82, Tryd.ntmps82
      go_wp2_with fail
      go_ret
      exact ⟨by first | rfl | exact ret_bool (by simp; omega), by go_grown⟩
    · have h2 : (d.blocks : Int) ≤ i := by omega
      obtain rfl : B = false := hB.symm.trans (decide_eq_false (fun h => h1 h.2))
      clear hB h1
      go_enter Tryd.func82, Tryd.ntmps82
      go_wp2_with fail
      go_ret
      exact ⟨by first | rfl | exact ret_bool (by simp; omega), by go_grown⟩
  · have h2 : i < 0 := by omega
    obtain rfl : B = false := hB.symm.trans (decide_eq_false (fun h => h0 h.1))
    clear hB h0
    go_enter Tryd.func82, Tryd.ntmps82
    go_wp2_with fail
    go_ret
    exact ⟨by first | rfl | exact ret_bool (by simp; omega), by go_grown⟩
set_option maxRecDepth 100000 in
theorem refWith_any (lv : Value) (xs : List Sl3) (i : Nat) (x : Sl3) (w : World) (h : RowAt eSl w lv xs) (hi : i < xs.length) (hl : xs.length ≤ 100000) :
    Calls Tryd.prog 81 #[lv, .int .i64 (i : Int), .slice x.1 x.2.1 x.2.2] w fun e w' => (∃ v, e = .returned v ∧ OwnR eSl w' w.heap.size v (xs.set i x)) ∧ Below w.heap.size w w' := by
  have HR := Lib.hid h
  clear h
  go_enter Tryd.func81, Tryd.ntmps81
  go_upto_region 2 with (at_builtin; (refine wpList_append_row eSl eSl_ok rfl (.tmp 8) (.tmp 9) rfl w.heap.size _ [] rfl (OwnR.empty w _ (Nat.le_refl _)) _ xs rfl (HR.out.alloc _) (by simp; omega) (by simp; omega) (by simp) ?_))
  intro v1 w1 ho hg hn
  have hbel := ((Below.refl w.heap.size w).alloc (Nat.le_refl _) (.cells #[] 32)).grown hg (by simp) (by intro k hk; simp [Value.ownBlock] at hk; omega)
  rcases ho.row with ⟨rfl, e0⟩ | ⟨g, cap, rfl, hg1, hg2, hg3, hg4⟩
  · rw [e0] at hi; simp at hi
  unfold maxLen at hg4
  obtain ⟨y, hy⟩ := getElem?_some_of_lt hi
  have hc := OwnR.cell eSl_ok ho hy (j := 0) (u := .slice y.1 y.2.1 y.2.2) rfl
  have hf := ho.free i
  simp only [Nat.mul_one, Nat.add_zero] at hc
  have hs := OwnR.set eSl_ok ho hy (j := 0) (y := x) (u := .slice x.1 x.2.1 x.2.2) (show 0 < 1 by decide) rfl
  simp only [Nat.mul_one, Nat.add_zero] at hs
  have HS := Lib.hid hs
  have HB := Lib.hid (hbel.setCell (p := ⟨g, i, none⟩) hg1 (.slice x.1 x.2.1 x.2.2))
  have hi0 : (0 : Int) ≤ (i : Int) := by omega
  have hi1 : (i : Int) < (xs.length : Int) := by omega
  clear ho hg hn hbel hy hs
  go_wp2_with fail
  go_ret
  exact ⟨⟨_, rfl, HS.out⟩, HB.out⟩
section
variable {G : Nat → Prop} {w : World} {n : Nat} {d : Bk.Disk} {lv wv kv : Value} {xs : List Sl3} {ys : List (Int × Sl3)}
/-- the lasting blocks' row of the document's disk -/
theorem DiskR.lastRow (h : DiskR G w d lv wv kv xs ys) (ho : Bk.Ok n d) : ∃ lg lo lc, lv = .slice (some ⟨lg, lo, none⟩) d.blocks lc ∧ d.blocks ≤ lc ∧ lc ≤ maxLen ∧ ∀ i, i < d.blocks → ∃ x, xs[i]? = some x ∧ w.cell? ⟨lg, lo + i, none⟩ = some (.slice x.1 x.2.1 x.2.2) ∧ BytesAt w (.slice x.1 x.2.1 x.2.2) (Bk.lastB d i) ∧ InG G (.slice x.1 x.2.1 x.2.2) := by
  have hl : xs.length = d.blocks := by rw [h.xlen, ho.len]
  obtain ⟨a, c, e, h1, h2, h3⟩ := h.last
  rcases h3 with h3 | ⟨b, o, rfl, hc⟩
  · rw [h3] at hl; have := ho.b; simp at hl; omega
  · rw [hl] at e h1
    refine ⟨b, o, c, e, h1, h2, fun i hi => ?_⟩
    obtain ⟨x, hx⟩ := getElem?_some_of_lt (l := xs) (k := i) (by omega)
    have hcell := hc i x hx 0 _ rfl
    simp only [Nat.mul_one, Nat.add_zero] at hcell
    obtain ⟨g1, g2⟩ := h.xeach i x _ hx (ho.lastB hi).2
    exact ⟨x, hx, hcell, g1, g2⟩
theorem DiskR.waitRow (h : DiskR G w d lv wv kv xs ys) : ∃ wa wc, wv = .slice wa d.waiting.length wc ∧ d.waiting.length ≤ wc ∧ wc ≤ maxLen ∧ ∀ i z, d.waiting[i]? = some z → ∃ wg wo y, wa = some ⟨wg, wo, none⟩ ∧ ys[i]? = some ((z.1 : Int), y) ∧ w.cell? ⟨wg, wo + i * 2, none⟩ = some (.int .i64 (z.1 : Int)) ∧ w.cell? ⟨wg, wo + i * 2 + 1, none⟩ = some (.slice y.1 y.2.1 y.2.2) ∧ BytesAt w (.slice y.1 y.2.1 y.2.2) z.2 ∧ InG G (.slice y.1 y.2.1 y.2.2) := by
  obtain ⟨a, c, e, h1, h2, h3⟩ := h.wait
  rw [h.ylen] at e h1
  refine ⟨a, c, e, h1, h2, fun i z hz => ?_⟩
  have hi : i < ys.length := by rw [h.ylen]; exact (List.getElem?_eq_some_iff.1 hz).1
  rcases h3 with h3 | ⟨b, o, rfl, hc⟩
  · rw [h3] at hi; simp at hi
  · obtain ⟨⟨q, y⟩, hy⟩ := getElem?_some_of_lt hi
    obtain ⟨e1, g1, g2⟩ := h.yeach i _ z hy hz
    simp only at e1 g1 g2
    subst e1
    have c0 := hc i _ hy 0 _ rfl
    have c1 := hc i _ hy 1 _ rfl
    refine ⟨b, o, y, rfl, hy, by simpa using c0, ?_, g1, g2⟩
    have : o + (i * 2 + 1) = o + i * 2 + 1 := by omega
    rw [← this]; exact c1
end
def GivesG (G : Nat → Prop) (l : List UInt8) (e : Ending) (w' : World) : Prop := ∃ a c, e = .returned (.slice a l.length c) ∧ BytesAt w' (.slice a l.length c) l ∧ InG G (.slice a l.length c)
def OutG (G : Nat → Prop) (w : World) (l : List UInt8) (v : Value) : Prop := BytesAt w v l ∧ InG G v
set_option maxRecDepth 100000 in
theorem refRead4_ok {G : Nat → Prop} {w : World} {n : Nat} {d : Bk.Disk} {v : Value} (hr : RefAt G w v d) (ho : Bk.Ok n d) (i : Nat) (h2 : i < d.blocks) (l : List UInt8) (hl : Bk.read d i = l) :
    Calls Tryd.prog 83 #[v, .int .i64 (i : Int)] w fun e w' => GivesG G l e w' ∧ Below w.heap.size w w' := by
  obtain ⟨lv, wv, kv, xs, ys, rfl, h⟩ := hr
  obtain ⟨lg, lo, lc, rfl, hlc, hlm, hlast⟩ := h.lastRow ho
  obtain ⟨wa, wc, rfl, hwl, hwm, hwait⟩ := h.waitRow
  unfold maxLen at hlm hwm
  obtain ⟨x, hx, hcx, hbx, hgx⟩ := hlast i h2
  have hi0 : (0 : Int) ≤ (i : Int) := by omega
  have hi1 : (i : Int) < (d.blocks : Int) := by omega
  have HW := Lib.hid hwait
  have HST := Lib.hid (show OutG G w (Bk.readK d.waiting i (Bk.lastB d i) 0) (.slice x.1 x.2.1 x.2.2) from ⟨hbx, hgx⟩)
  have HL := Lib.hid hl
  clear h ho hlast hwait hx hbx hgx hl
  unfold refD
  go_enter Tryd.func83, Tryd.ntmps83
  go_upto_region 1 with fail
  refine wp_name fun W hW => ?_
  have HX := Lib.hid (show BoxAt W w.heap.size (cellsD d (.slice (some ⟨lg, lo, none⟩) d.blocks lc) (.slice wa d.waiting.length wc) kv) by rw [hW]; exact BoxAt.new w (cellsD _ _ _ _) _)
  have HB := Lib.hid (show Below w.heap.size w W by rw [hW]; exact (Below.refl _ _).alloc (Nat.le_refl _) _)
  clear hW
  obtain ⟨-, -, m2, m3, -⟩ := HX.out.eleven
  have hcx' : W.cell? ⟨lg, lo + i, none⟩ = some (.slice x.1 x.2.1 x.2.2) := by rw [HB.out.cell (World.block_lt_of_cell? w _ hcx)]; exact hcx
  go_wp2_with fail
  go_loop [5, 6] (fun o k => ∃ j : Nat, j ≤ d.waiting.length ∧ k = .int .i64 (j : Int) ∧ OutG G w (Bk.readK d.waiting i (Bk.lastB d i) j) o) (fun _ k => d.waiting.length - (intOf k).toNat)
  case atStart => exact ⟨0, Nat.zero_le _, rfl, HST.out⟩
  case round =>
    obtain ⟨j, hj, rfl, hout⟩ := hrel
    have HO := Lib.hid hout
    clear hout
    by_cases hlt : j < d.waiting.length
    · obtain ⟨z, hz⟩ := getElem?_some_of_lt hlt
      obtain ⟨wg, wo, y, rfl, hy, c0, c1, g1, g2⟩ := HW.out j z hz
      have c0' : W.cell? ⟨wg, wo + j * 2, none⟩ = some (.int .i64 (z.1 : Int)) := by rw [HB.out.cell (World.block_lt_of_cell? w _ c0)]; exact c0
      have c1' : W.cell? ⟨wg, wo + j * 2 + 1, none⟩ = some (.slice y.1 y.2.1 y.2.2) := by rw [HB.out.cell (World.block_lt_of_cell? w _ c1)]; exact c1
      have hlt1 : (j : Int) < (d.waiting.length : Int) := by omega
      have hj0 : (0 : Int) ≤ (j : Int) := by omega
      by_cases hzi : z.1 = i
      · have e1 : ((z.1 : Int) == (i : Int)) = true := by simp [hzi]
        have HN := Lib.hid (show OutG G w (Bk.readK d.waiting i (Bk.lastB d i) (j + 1)) (.slice y.1 y.2.1 y.2.2) by rw [readK_hit hz hzi]; exact ⟨g1, g2⟩)
        clear hz hzi hy c0 c1 g1 g2
        go_wp2_with fail
        go_round
        case rel => exact ⟨j + 1, by omega, by go_num, HN.out⟩
        case measure => simp [intOf]; omega
      · have e1 : ((z.1 : Int) == (i : Int)) = false := by simp; omega
        have HN := Lib.hid (show Bk.readK d.waiting i (Bk.lastB d i) (j + 1) = Bk.readK d.waiting i (Bk.lastB d i) j from readK_miss hz hzi)
        clear hz hzi hy c0 c1 g1 g2
        go_wp2_with fail
        go_round
        case rel => exact ⟨j + 1, by omega, by go_num, by rw [HN.out]; exact HO.out⟩
        case measure => simp [intOf]; omega
    · obtain rfl : j = d.waiting.length := by omega
      obtain ⟨⟨a, c, rfl, b1, b2, b3⟩, hg⟩ := id HO.out
      clear b1 b2 b3
      have hread : Bk.readK d.waiting i (Bk.lastB d i) d.waiting.length = l := HL.out
      rw [hread] at hg
      have HG := Lib.hid hg
      have HRD := Lib.hid hread
      clear hg hread
      go_wp2_with fail
      go_ret
      rw [HRD.out]
      refine ⟨⟨a, c, rfl, ?_, HG.out⟩, HB.out⟩
      have := HO.out.1.below HB.out
      rw [HRD.out] at this
      exact this
end Go.Proofs.YtflbioiildndoaaDoor
