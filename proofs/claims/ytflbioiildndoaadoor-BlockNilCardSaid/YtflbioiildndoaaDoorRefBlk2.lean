/- the document's disks: torn, Arm, On -/
import Derived.Test.YtflbioiildndoaaDoorRefBlk1
namespace Go.Proofs.YtflbioiildndoaaDoor
open Go.RowKit
set_option linter.unusedVariables false
set_option linter.unusedSimpArgs false

theorem byteOne4 (w : World) (x : UInt8) (n : Nat) (hn : w.heap.size = n) : BytesAt (w.alloc (.cells #[.int .u8 (x.toNat : Int)] 5)) (.slice (some ⟨n, 0, none⟩) 1 1) [x] := by
  subst hn
  refine ⟨_, 1, rfl, Nat.le_refl _, by unfold maxLen; decide, .inr ⟨w.heap.size, 0, rfl, fun i y hy => ?_⟩⟩
  have hi : i = 0 := by have := (List.getElem?_eq_some_iff.1 hy).1; simp at this; omega
  subst hi
  simp at hy
  subst hy
  rw [cell_of_row _ w.heap.size _ _ 5 (0, 0) (heap_alloc_new w _)]
  rfl
theorem tornB_at {old b : Bk.Blk} {cut : Int} (h : old.length = b.length) {k : Nat} (hk : k < old.length) : (Bk.tornB old b cut)[k]? = if (k : Int) < cut then b[k]? else old[k]? := by
  unfold Bk.tornB
  by_cases hc : (k : Int) < cut
  · rw [if_pos hc, List.getElem?_append_left (by rw [List.length_take]; omega), List.getElem?_take, if_pos (by omega)]
  · rw [if_neg hc, List.getElem?_append_right (by rw [List.length_take]; omega), List.getElem?_drop, List.length_take]
    congr 1
    omega
set_option maxRecDepth 100000 in
theorem refTorn4_is (v1 v2 : Value) (old b : List UInt8) (cut : Int) (R : List UInt8) (hR : Bk.tornB old b cut = R) (w : World) (h1 : BytesAt w v1 old) (h2 : BytesAt w v2 b) (hl : old.length = b.length) (hm : old.length ≤ 100000) :
    Calls Tryd.prog 92 #[v1, v2, .int .i64 cut] w fun e w' => (∃ v, e = .returned v ∧ Own w' w.heap.size v R) ∧ Below w.heap.size w w' := by
  have hRl : R.length = old.length := by rw [← hR, Bk.tornB_length hl, hl]
  have hat := fun k (hk : k < old.length) => tornB_at (cut := cut) hl hk
  rw [hR] at hat
  have HAT := Lib.hid hat
  have H1 := Lib.hid h1
  have H2 := Lib.hid h2
  have HRL := Lib.hid hRl
  have HL := Lib.hid hl
  obtain ⟨a1, c1, rfl, hc1, hm1, hx1⟩ := h1
  obtain ⟨a2, c2, rfl, hc2, hm2, hx2⟩ := h2
  have HX1 := Lib.hid hx1
  have HX2 := Lib.hid hx2
  unfold maxLen at hm1 hm2
  clear hR hat hRl hl hx1 hx2
  go_enter Tryd.func92, Tryd.ntmps92
  go_wp2_with fail
  go_loopw [7, 8] (fun o i wr => ∃ k : Nat, k ≤ old.length ∧ i = .int .i64 (k : Int) ∧ Own wr w.heap.size o (R.take k) ∧ Below w.heap.size w wr) (fun _ i _ => old.length - (intOf i).toNat)
  case atStart => exact ⟨0, Nat.zero_le _, rfl, Own.empty w _ (Nat.le_refl _), (Below.refl _ _).alloc (Nat.le_refl _) _⟩
  case round =>
    obtain ⟨k, hk, rfl, ho, hb⟩ := hrel
    have HO := Lib.hid ho
    have HB := Lib.hid hb
    clear ho hb
    by_cases hlt : k < old.length
    · have hlt1 : (k : Int) < (old.length : Int) := by omega
      have hk0 : (0 : Int) ≤ (k : Int) := by omega
      have hlt2 : (k : Int) < (b.length : Int) := by have := HL.out; omega
      obtain ⟨r, hr⟩ := getElem?_some_of_lt (l := R) (k := k) (by rw [HRL.out]; exact hlt)
      have hRk := HAT.out k hlt
      rw [hr] at hRk
      have hsn : R.take (k + 1) = R.take k ++ [r] := by rw [List.take_add_one, hr]; rfl
      have HSN := Lib.hid hsn
      have htl : (R.take k).length ≤ 100000 := by rw [List.length_take]; omega
      have HTL := Lib.hid htl
      clear hr hsn htl
      by_cases hc : (k : Int) < cut
      · rw [if_pos hc] at hRk
        obtain ⟨b1, o1, rfl, hcell⟩ : ∃ b1 o1, a2 = some ⟨b1, o1, none⟩ ∧ w.cell? ⟨b1, o1 + k, none⟩ = some (.int .u8 (r.toNat : Int)) := by
          rcases HX2.out with h | ⟨b1, o1, rfl, hc⟩
          · have h2 : b.length = 0 := by rw [h]; rfl
            have := HL.out; omega
          · exact ⟨b1, o1, rfl, hc k r hRk.symm⟩
        have hcell' := (HB.out.cell (World.block_lt_of_cell? w _ hcell)).trans hcell
        clear hRk hcell
        go_wp2_with (at_builtin; (refine wpList_append_bytes rfl (.tmp 19) (.tmp 24) rfl w.heap.size _ _ rfl (HO.out.alloc _) _ [r] rfl (byteOne4 _ r _ rfl) (by have := HTL.out; simp at this ⊢; omega) (by have := HB.out.size; simp; omega) ?_))
        intro v3 w3 ho3 hg3 hn3
        have HO3 := Lib.hid ho3
        have HB3 := Lib.hid ((HB.out.alloc HB.out.size (.cells #[.int .u8 (r.toNat : Int)] 5)).grown hg3 (by have := HB.out.size; simp; omega) (fun j hj => (HO.out.lt j hj).1))
        clear ho3 hg3 hn3
        go_wp2_with fail
        go_roundw
        case rel => exact ⟨k + 1, by omega, by go_num, by rw [HSN.out]; exact HO3.out, HB3.out⟩
        case measure => simp [intOf]; omega
      · rw [if_neg hc] at hRk
        have hc' : cut ≤ (k : Int) := by omega
        obtain ⟨b1, o1, rfl, hcell⟩ : ∃ b1 o1, a1 = some ⟨b1, o1, none⟩ ∧ w.cell? ⟨b1, o1 + k, none⟩ = some (.int .u8 (r.toNat : Int)) := by
          rcases HX1.out with h | ⟨b1, o1, rfl, hc⟩
          · rw [h] at hlt; simp at hlt
          · exact ⟨b1, o1, rfl, hc k r hRk.symm⟩
        have hcell' := (HB.out.cell (World.block_lt_of_cell? w _ hcell)).trans hcell
        clear hRk hcell hc
        go_wp2_with (at_builtin; (refine wpList_append_bytes rfl (.tmp 26) (.tmp 31) rfl w.heap.size _ _ rfl (HO.out.alloc _) _ [r] rfl (byteOne4 _ r _ rfl) (by have := HTL.out; simp at this ⊢; omega) (by have := HB.out.size; simp; omega) ?_))
        intro v3 w3 ho3 hg3 hn3
        have HO3 := Lib.hid ho3
        have HB3 := Lib.hid ((HB.out.alloc HB.out.size (.cells #[.int .u8 (r.toNat : Int)] 5)).grown hg3 (by have := HB.out.size; simp; omega) (fun j hj => (HO.out.lt j hj).1))
        clear ho3 hg3 hn3
        go_wp2_with fail
        go_roundw
        case rel => exact ⟨k + 1, by omega, by go_num, by rw [HSN.out]; exact HO3.out, HB3.out⟩
        case measure => simp [intOf]; omega
    · obtain rfl : k = old.length := by omega
      have HO2 : Hid (Own wr w.heap.size _ R) := Lib.hid (by have := HO.out; rwa [← HRL.out, List.take_length] at this)
      go_wp2_with fail
      go_ret
      exact ⟨⟨_, rfl, HO2.out⟩, HB.out⟩
/-! ### disks by value -/
/-- a disk of the document, in memory that was there or is new -/
def GivesR (G : Nat → Prop) (w : World) (d : Bk.Disk) (e : Ending) (w' : World) : Prop := ∃ v, e = .returned v ∧ RefAt (More G w w') w' v d
def GivesRC (G : Nat → Prop) (w : World) (d : Bk.Disk) (k : Nat) (e : Ending) (w' : World) : Prop := ∃ v, e = .returned (.tuple #[v, .int .i64 (k : Int)]) ∧ RefAt (More G w w') w' v d
/-- the cells of a disk by value -/
abbrev eD (d : Bk.Disk) (lv wv kv : Value) : Array Value := #[.int .i64 (d.blocks : Int), .int .i64 (d.size : Int), lv, wv, .bool d.lit, .int .i64 d.after, .int .i64 d.torn, .int .i64 d.cut, kv, .bool d.off, .int .i64 d.count]
theorem DiskR.more {G : Nat → Prop} {w w' : World} {d : Bk.Disk} {lv wv kv : Value} {xs : List Sl3} {ys : List (Int × Sl3)} (h : DiskR G w d lv wv kv xs ys) (hG : Held G w) (hb : Below w.heap.size w w') : DiskR (More G w w') w' d lv wv kv xs ys :=
  (h.on fun k hk => hb.block k (hG k hk)).mono fun k hk => .inl hk
theorem DiskR.shape {G : Nat → Prop} {w : World} {d : Bk.Disk} {lv wv kv : Value} {xs : List Sl3} {ys : List (Int × Sl3)} (h : DiskR G w d lv wv kv xs ys) : ∃ la lc wa wc ka kc, lv = .slice la xs.length lc ∧ wv = .slice wa ys.length wc ∧ kv = .slice ka d.keep.length kc := by
  obtain ⟨la, lc, e1, -⟩ := h.last
  obtain ⟨wa, wc, e2, -⟩ := h.wait
  obtain ⟨ka, kc, e3, -⟩ := h.keep
  exact ⟨la, lc, wa, wc, ka, kc, e1, e2, e3⟩
theorem DiskR.noKeep {G : Nat → Prop} {w : World} {d d' : Bk.Disk} {lv wv kv : Value} {xs : List Sl3} {ys : List (Int × Sl3)} (h : DiskR G w d lv wv kv xs ys) (e2 : d'.lasting = d.lasting) (e3 : d'.waiting = d.waiting) (e4 : d'.keep = []) : DiskR G w d' lv wv (.slice none 0 0) xs ys where
  last := h.last
  wait := h.wait
  keep := by rw [e4]; exact RowAt.nil _ _
  lastG := h.lastG
  waitG := h.waitG
  keepG := .inl e4
  xlen := by rw [e2]; exact h.xlen
  xeach := by rw [e2]; exact h.xeach
  ylen := by rw [e3]; exact h.ylen
  yeach := by rw [e3]; exact h.yeach
theorem DiskR.as {G : Nat → Prop} {w : World} {d d' : Bk.Disk} {lv wv kv : Value} {xs : List Sl3} {ys : List (Int × Sl3)} (h : DiskR G w d lv wv kv xs ys) (e2 : d'.lasting = d.lasting) (e3 : d'.waiting = d.waiting) (e4 : d'.keep = d.keep) : DiskR G w d' lv wv kv xs ys where
  last := h.last
  wait := h.wait
  keep := by rw [e4]; exact h.keep
  lastG := h.lastG
  waitG := h.waitG
  keepG := by rw [e4]; exact h.keepG
  xlen := by rw [e2]; exact h.xlen
  xeach := by rw [e2]; exact h.xeach
  ylen := by rw [e3]; exact h.ylen
  yeach := by rw [e3]; exact h.yeach
theorem DiskR.newKeep {G : Nat → Prop} {w : World} {d d' : Bk.Disk} {lv wv kv kv' : Value} {xs : List Sl3} {ys : List (Int × Sl3)} (h : DiskR G w d lv wv kv xs ys) (e2 : d'.lasting = d.lasting) (e3 : d'.waiting = d.waiting) (hk : RowAt eBool w kv' d'.keep) (hG : d'.keep = [] ∨ InG G kv') : DiskR G w d' lv wv kv' xs ys where
  last := h.last
  wait := h.wait
  keep := hk
  lastG := h.lastG
  waitG := h.waitG
  keepG := hG
  xlen := by rw [e2]; exact h.xlen
  xeach := by rw [e2]; exact h.xeach
  ylen := by rw [e3]; exact h.ylen
  yeach := by rw [e3]; exact h.yeach
theorem DiskR.newLast {G : Nat → Prop} {w : World} {d d' : Bk.Disk} {lv lv' wv kv : Value} {xs xs' : List Sl3} {ys : List (Int × Sl3)} (h : DiskR G w d lv wv kv xs ys) (hl : RowAt eSl w lv' xs') (hlG : InG G lv') (hx : xs'.length = d'.lasting.length) (he : ∀ (i : Nat) x b, xs'[i]? = some x → d'.lasting[i]? = some b → BytesAt w (.slice x.1 x.2.1 x.2.2) b ∧ InG G (.slice x.1 x.2.1 x.2.2)) (e3 : d'.waiting = []) (e4 : d'.keep = d.keep) : DiskR G w d' lv' (.slice none 0 0) kv xs' [] where
  last := hl
  wait := RowAt.nil _ _
  keep := by rw [e4]; exact h.keep
  lastG := hlG
  waitG := fun k hk => by cases hk
  keepG := by rw [e4]; exact h.keepG
  xlen := hx
  xeach := he
  ylen := by rw [e3]; rfl
  yeach := fun i y z hy => by cases hy
theorem GivesR.of {G : Nat → Prop} {w w' : World} {d : Bk.Disk} {lv wv kv : Value} {xs : List Sl3} {ys : List (Int × Sl3)} (h : DiskR G w d lv wv kv xs ys) (hG : Held G w) (hb : Below w.heap.size w w') : GivesR G w d (.returned (refD d lv wv kv)) w' ∧ Below w.heap.size w w' :=
  ⟨⟨_, rfl, _, _, _, _, _, rfl, h.more hG hb⟩, hb⟩
theorem GivesRC.of {G : Nat → Prop} {w w' : World} {d : Bk.Disk} {k : Nat} {lv wv kv : Value} {xs : List Sl3} {ys : List (Int × Sl3)} (h : DiskR G w d lv wv kv xs ys) (hG : Held G w) (hb : Below w.heap.size w w') : GivesRC G w d k (.returned (.tuple #[refD d lv wv kv, .int .i64 (k : Int)])) w' ∧ Below w.heap.size w w' :=
  ⟨⟨_, rfl, _, _, _, _, _, rfl, h.more hG hb⟩, hb⟩
set_option maxRecDepth 100000 in
theorem refOn4 {G : Nat → Prop} {w : World} {d : Bk.Disk} {v : Value} (hr : RefAt G w v d) (hG : Held G w) :
    Calls Tryd.prog 24 #[v] w fun e w' => GivesR G w (Bk.on d) e w' ∧ Below w.heap.size w w' := by
  obtain ⟨lv, wv, kv, xs, ys, rfl, h⟩ := hr
  obtain ⟨la, lc, wa, wc, ka, kc, rfl, rfl, rfl⟩ := h.shape
  have H := Lib.hid h
  have HG := Lib.hid hG
  clear h hG
  unfold refD
  go_enter Tryd.func24, Tryd.ntmps24
  go_wp2_with fail
  refine bodyPost_ret (v := refD (Bk.on d) (.slice la xs.length lc) (.slice wa ys.length wc) (.slice none 0 0)) (by simp [results, Tryd.results24, go_sem, refD, Bk.on]) rfl ?_
  exact GivesR.of (H.out.noKeep (d' := Bk.on d) rfl rfl rfl) HG.out (by go_grown)
set_option maxRecDepth 100000 in
theorem refArm4 {G : Nat → Prop} {w : World} {d : Bk.Disk} {v : Value} (hr : RefAt G w v d) (hG : Held G w) (after which cut : Int) (keepV : Value) (keep : List Bool) (hk : RowAt eBool w keepV keep) (hkG : keep = [] ∨ InG G keepV) :
    Calls Tryd.prog 93 #[v, .int .i64 after, keepV, .int .i64 which, .int .i64 cut] w fun e w' => GivesRC G w (Bk.arm d after keep which cut).1 (Bk.arm d after keep which cut).2 e w' ∧ Below w.heap.size w w' := by
  obtain ⟨lv, wv, kv, xs, ys, rfl, h⟩ := hr
  obtain ⟨la, lc, wa, wc, ka, kc, rfl, rfl, rfl⟩ := h.shape
  obtain ⟨ka2, kc2, rfl, -, -, -⟩ := id hk
  have H := Lib.hid h
  have HG := Lib.hid hG
  have HK := Lib.hid hk
  have HKG := Lib.hid hkG
  clear h hG hk hkG
  unfold refD
  by_cases ha : after < 0
  · have HE := Lib.hid (show Bk.arm d after keep which cut = (d, 2) by unfold Bk.arm; rw [if_pos ha])
    go_enter Tryd.func93, Tryd.ntmps93
    go_wp2_with fail
    rw [HE.out]
    refine bodyPost_ret (v := .tuple #[refD d (.slice la xs.length lc) (.slice wa ys.length wc) (.slice ka d.keep.length kc), .int .i64 2]) (by simp [results, Tryd.results93, go_sem, refD]) rfl ?_
    exact GivesRC.of H.out HG.out (by go_grown)
  · have ha' : 0 ≤ after := by omega
    have HE := Lib.hid (show Bk.arm d after keep which cut = ({ d with lit := true, after := after, torn := which, cut := cut, keep := keep }, 0) by unfold Bk.arm; rw [if_neg ha])
    clear ha
    go_enter Tryd.func93, Tryd.ntmps93
    go_wp2_with fail
    rw [HE.out]
    refine bodyPost_ret (v := .tuple #[refD { d with lit := true, after := after, torn := which, cut := cut, keep := keep } (.slice la xs.length lc) (.slice wa ys.length wc) (.slice ka2 keep.length kc2), .int .i64 0]) (by simp [results, Tryd.results93, go_sem, refD]) rfl ?_
    exact GivesRC.of (H.out.newKeep (d' := { d with lit := true, after := after, torn := which, cut := cut, keep := keep }) rfl rfl HK.out HKG.out) HG.out (by go_grown)
end Go.Proofs.YtflbioiildndoaaDoor
