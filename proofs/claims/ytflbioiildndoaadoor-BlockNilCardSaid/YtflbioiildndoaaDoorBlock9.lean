/- block: Corrupt -/
import Derived.Test.YtflbioiildndoaaDoorBlock8
namespace Go.Proofs.YtflbioiildndoaaDoor
open Go.RowKit
set_option linter.unusedVariables false
set_option linter.unusedSimpArgs false

theorem corrupt_nil (i bit : Int) (mask : Int) (w : World) (A : Nat → Addr) (hs : Sents w A) :
    Calls Tryd.prog 28 #[.pointer none, .int .i64 i, .int .i64 bit, .int .u32 mask] w fun e w' => IsFault A w.heap.size [-1] 7 e w' ∧ Below w.heap.size w w' := by
  have HS := Lib.hid hs
  clear hs
  go_enter Tryd.func28, Tryd.ntmps28
  go_wp2_with (go_at_call 66; refine (check_nil _ i _ A HS.out).mono ?_; rintro e w' ⟨⟨v, rfl, hv⟩, hb⟩; obtain ⟨tv, xv, rfl⟩ := hv.iface (by decide))
  go_ret
  exact ⟨⟨_, rfl, hv⟩, hb⟩
theorem corrupt_out {F : Nat → Prop} {w : World} {p : Nat} {d : Bk.Disk} (hd : DiskAt F w p d) (hF : Held F w) (i bit mask : Int) (h1 : i < 0 ∨ (d.blocks : Int) ≤ i) (A : Nat → Addr) (hs : Sents w A) :
    Calls Tryd.prog 28 #[.pointer (some ⟨p, 0, none⟩), .int .i64 i, .int .i64 bit, .int .u32 mask] w (Does F w A p d 2) := by
  have HD := Lib.hid hd
  obtain ⟨lv, wv, kv, gs, hs0, hp⟩ := hd
  obtain ⟨m0, -⟩ := hp.box.eleven
  have HS := Lib.hid hs
  have H1 := Lib.hid h1
  have HF := Lib.hid hF
  clear hs h1 hp hF
  go_enter Tryd.func28, Tryd.ntmps28
  go_wp2_with (go_at_call 66; refine (check_out p _ i _ _ m0 H1.out A HS.out).mono ?_; rintro e w' ⟨⟨v, rfl, hv⟩, hb⟩; obtain ⟨tv, xv, rfl⟩ := hv.iface (by decide))
  go_ret
  exact Does.weak HF.out HD.out (Beside.refl _ _) hb hv
theorem corrupt_bit {F : Nat → Prop} {w : World} {p n : Nat} {d : Bk.Disk} (hd : DiskAt F w p d) (ho : Bk.Ok n d) (hF : Held F w) (i bit mask : Int) (h1 : 0 ≤ i) (h2 : i < d.blocks) (hb : bit < 0 ∨ (8 * d.size : Int) ≤ bit) (A : Nat → Addr) (hs : Sents w A) :
    Calls Tryd.prog 28 #[.pointer (some ⟨p, 0, none⟩), .int .i64 i, .int .i64 bit, .int .u32 mask] w (Does F w A p d 2) := by
  have HD := Lib.hid hd
  obtain ⟨lv, wv, kv, gs, hs0, hp⟩ := hd
  obtain ⟨m0, m1, -⟩ := hp.box.eleven
  have hsz := ho.s
  have g2 : w.cell? ⟨0, 0, none⟩ = some (.iface 171 (.pointer (some (A 2)))) := hs.cell 2 (by decide) (by decide)
  have HE := Lib.hid (sent_err (w := w) (A := A) (B := w.heap.size) 2 (by decide) (by decide))
  have HF := Lib.hid hF
  clear hs hp hF ho
  by_cases hb0 : bit < 0
  · clear hb
    go_enter Tryd.func28, Tryd.ntmps28
    go_wp2_with (first
      | (go_at_call 66; refine (check_in p _ i _ _ m0 h1 h2).mono ?_; rintro e w1 ⟨rfl, rfl⟩)
      | (go_at_call 67; refine (faultAt_any _ _ [] 2 _ _ A w.heap.size HE.out (by decide) (Nat.le_refl _)).mono ?_; rintro e w' ⟨⟨v, rfl, hv⟩, hb⟩))
    go_ret
    exact Does.weak HF.out HD.out (Beside.refl _ _) hb hv
  · have hb1 : 0 ≤ bit := by omega
    have hb2 : (8 * d.size : Int) ≤ bit := by omega
    clear hb hb0
    go_enter Tryd.func28, Tryd.ntmps28
    go_wp2_with (first
      | (go_at_call 66; refine (check_in p _ i _ _ m0 h1 h2).mono ?_; rintro e w1 ⟨rfl, rfl⟩)
      | (go_at_call 67; refine (faultAt_any _ _ [] 2 _ _ A w.heap.size HE.out (by decide) (Nat.le_refl _)).mono ?_; rintro e w' ⟨⟨v, rfl, hv⟩, hb⟩))
    go_ret
    exact Does.weak HF.out HD.out (Beside.refl _ _) hb hv
theorem corrupt_spell (x : UInt8) (mask : BitVec 32) (k r : Nat) (hr : r < 8) :
    bits .xor .u8 (x.toNat : Int) (IntKind.u8.wrap (IntKind.u8.wrap (bits .and .u32 ((mask.toNat : Int) / 2 ^ k) 1) * 2 ^ r)) = (((if mask.getLsbD k = true then x ^^^ UInt8.ofNat (2 ^ r) else x) : UInt8).toNat : Int) := by
  have e0 : (mask.toNat : Int) / 2 ^ k = ((mask >>> k).toNat : Int) := by
    rw [BitVec.toNat_ushiftRight, Nat.shiftRight_eq_div_pow]; simp
  have e1 : bits .and .u32 ((mask.toNat : Int) / 2 ^ k) 1 = (((mask.toNat / 2 ^ k) % 2 : Nat) : Int) := by
    rw [e0]
    have := bits_and_u32 (mask >>> k) 1#32
    rw [show (((1#32 : BitVec 32).toNat : Nat) : Int) = 1 from rfl] at this
    rw [this, BitVec.toNat_and, BitVec.toNat_ushiftRight, Nat.shiftRight_eq_div_pow]
    rw [show (1#32 : BitVec 32).toNat = 1 from rfl, Nat.and_one_is_mod]
  have e2 : mask.getLsbD k = decide (mask.toNat / 2 ^ k % 2 = 1) := by rw [BitVec.getLsbD, Nat.testBit_eq_decide_div_mod_eq]
  rw [e1]
  have hlt : mask.toNat / 2 ^ k % 2 < 2 := Nat.mod_lt _ (by decide)
  generalize mask.toNat / 2 ^ k % 2 = m at *
  rcases (show m = 0 ∨ m = 1 by omega) with rfl | rfl
  · rw [e2]
    have := bits_xor_u8 x 0
    simpa [IntKind.wrap_u8] using this
  · rw [e2]
    have hp : (2 : Int) ^ r % 256 = (2 : Int) ^ r := by
      have : 2 ^ r < 256 := Nat.pow_lt_pow_right (by decide) hr
      have e : (2 : Int) ^ r = ((2 ^ r : Nat) : Int) := by simp
      rw [e]; exact Int.emod_eq_of_lt (Int.natCast_nonneg _) (by have h := Int.ofNat_lt.2 this; exact h)
    have := flip_spell x r
    rw [hp] at this
    simpa [IntKind.wrap_u8, hp] using this
def corK (d : Bk.Disk) (i bit : Nat) (mask : BitVec 32) (k : Nat) : Bk.Disk := { d with lasting := d.lasting.set i (changed (Bk.lastB d i) bit mask k) }
theorem corK_ok {n : Nat} {d : Bk.Disk} (h : Bk.Ok n d) {i : Nat} (hi : i < d.blocks) (bit : Nat) (mask : BitVec 32) (k : Nat) : Bk.Ok n (corK d i bit mask k) := by
  have hr := h.row.set i (x := changed (Bk.lastB d i) bit mask k) (by rw [changed_length]; exact (h.lastB hi).1)
  exact ⟨h.b, h.s, hr.1, hr.2, h.wait, h.many⟩
theorem corK_last {n : Nat} {d : Bk.Disk} (h : Bk.Ok n d) {i : Nat} (hi : i < d.blocks) (bit : Nat) (mask : BitVec 32) (k : Nat) : Bk.lastB (corK d i bit mask k) i = changed (Bk.lastB d i) bit mask k := by
  unfold corK Bk.lastB
  simp only
  rw [List.getD_eq_getElem?_getD, List.getElem?_set, if_pos rfl, if_pos (by rw [h.len]; exact hi)]
  rfl
theorem corK_zero {n : Nat} {d : Bk.Disk} (h : Bk.Ok n d) {i : Nat} (hi : i < d.blocks) (bit : Nat) (mask : BitVec 32) : corK d i bit mask 0 = d := by
  unfold corK
  rw [changed, Bk.set_same (h.lastB hi).2]
def CorI (F : Nat → Prop) (w : World) (p : Nat) (d : Bk.Disk) (i bit : Nat) (mask : BitVec 32) (lv wv kv : Value) (gs : List (Nat × Nat)) (hs : List (Int × Nat × Nat)) (k : Nat) (wr : World) : Prop :=
  DiskP F wr p (corK d i bit mask k) lv wv kv gs hs ∧ Beside F w wr
theorem CorI.next {F : Nat → Prop} {w wr wr' : World} {p : Nat} {d : Bk.Disk} {i bit : Nat} {mask : BitVec 32} {lv wv kv : Value} {gs : List (Nat × Nat)} {hs : List (Int × Nat × Nat)} {k : Nat} (h : CorI F w p d i bit mask lv wv kv gs hs k wr) {g : Nat × Nat} (hgi : gs[i]? = some g) (hg : wr.grownBy wr' (some g.1))
    (hb : Own wr' 0 (.slice (some ⟨g.1, 0, none⟩) d.size g.2) (changed (Bk.lastB d i) bit mask (k + 1))) : CorI F w p d i bit mask lv wv kv gs hs (k + 1) wr' := by
  refine ⟨?_, h.2.same (Beside.of_grown hg (h.1.inF _ (mem_gs hgi)))⟩
  have := h.1.setLast hgi hg hb
  unfold corK at this ⊢
  simp only [List.set_set] at this
  exact this
theorem CorI.skip {F : Nat → Prop} {w wr : World} {p : Nat} {d : Bk.Disk} {i bit : Nat} {mask : BitVec 32} {lv wv kv : Value} {gs : List (Nat × Nat)} {hs : List (Int × Nat × Nat)} {k : Nat} (h : CorI F w p d i bit mask lv wv kv gs hs k wr) (e : changed (Bk.lastB d i) bit mask k = changed (Bk.lastB d i) bit mask (k + 1)) : CorI F w p d i bit mask lv wv kv gs hs (k + 1) wr := by
  refine ⟨?_, h.2⟩
  have := h.1
  unfold corK at this ⊢
  rw [← e]
  exact this
set_option maxRecDepth 100000 in
theorem corrupt_in {F : Nat → Prop} {w : World} {p n : Nat} {d : Bk.Disk} (hd : DiskAt F w p d) (ho : Bk.Ok n d) (hF : Held F w) (i bit : Nat) (mask : BitVec 32) (h2 : i < d.blocks) (hb : bit < 8 * d.size) (A : Nat → Addr) :
    Calls Tryd.prog 28 #[.pointer (some ⟨p, 0, none⟩), .int .i64 (i : Int), .int .i64 (bit : Int), .int .u32 (mask.toNat : Int)] w (Does F w A p (corK d i bit mask 32) 0) := by
  obtain ⟨lv, wv, kv, gs, hs, hp⟩ := hd
  obtain ⟨lg, lc, elv, hlc, hcm⟩ := hp.lastRow ho
  subst elv
  unfold maxLen at hcm
  obtain ⟨m0, m1, m2, -, -, -, -, -, -, -, -⟩ := hp.box.eleven
  have hsz := ho.s
  have HP := Lib.hid hp
  have HOK := Lib.hid ho
  have HF := Lib.hid hF
  have hi0 : (0 : Int) ≤ (i : Int) := by omega
  have hi1 : (i : Int) < (d.blocks : Int) := by omega
  have hb0 : (0 : Int) ≤ (bit : Int) := by omega
  have hb1 : (bit : Int) < 8 * (d.size : Int) := by omega
  clear hp ho hF
  go_enter Tryd.func28, Tryd.ntmps28
  go_wp2_with (go_at_call 66; refine (check_in p _ (i : Int) _ _ m0 hi0 hi1).mono ?_; rintro e w1 ⟨rfl, rfl⟩)
  go_loopw [33] (fun x wr => ∃ k : Nat, k ≤ 32 ∧ x = .int .i64 (k : Int) ∧ CorI F w p d i bit mask (.slice (some ⟨lg, 0, none⟩) d.blocks lc) wv kv gs hs k wr) (fun x _ => 32 - (intOf x).toNat)
  case atStart => exact ⟨0, Nat.zero_le _, rfl, by rw [corK_zero HOK.out h2]; exact HP.out, Beside.refl _ _⟩
  case round =>
    obtain ⟨k, hk, rfl, hi⟩ := hrel
    have HI := Lib.hid hi
    clear m0 m1 m2
    obtain ⟨m0, m1', m2, -, -, -, -, -, -, -, -⟩ := hi.1.box.eleven
    have m1 : wr.cell? ⟨p, 1, none⟩ = some (.int .i64 (d.size : Int)) := m1'
    clear m1'
    by_cases hlt : k < 32
    · have hlt1 : (k : Int) < 32 := by omega
      have hk0 : (0 : Int) ≤ (k : Int) := by omega
      obtain ⟨g, hgi, hgc', hgf, hown'⟩ := hi.1.lastCell (corK_ok HOK.out h2 bit mask k) rfl h2
      have hgc : wr.cell? ⟨lg, i, none⟩ = some (.slice (some ⟨g.1, 0, none⟩) d.size g.2) := hgc'
      have hown : Own wr 0 (.slice (some ⟨g.1, 0, none⟩) d.size g.2) (changed (Bk.lastB d i) bit mask k) := by rw [← corK_last HOK.out h2]; exact hown'
      clear hgc' hown'
      have hcl : (changed (Bk.lastB d i) bit mask k).length = d.size := by rw [changed_length]; exact (HOK.out.lastB h2).1
      generalize hc : changed (Bk.lastB d i) bit mask k = c at *
      have HC := Lib.hid hc
      have HCL := Lib.hid hcl
      have HO := Lib.hid hown
      have HGI := Lib.hid hgi
      clear hc hcl hown hgi hgf hi
      by_cases hat : (bit : Int) + (k : Int) < 8 * (d.size : Int)
      · go_upto_region 11 with fail
        have n2 := Near.cell (w := wr.drew) (row := none) m2 (by simp)
        have n3 := Near.cell (w := wr.drew) (row := none) hgc (by simp)
        obtain ⟨q, hq⟩ : ∃ q, (bit + k) / 8 = q := ⟨_, rfl⟩
        have hql : q < d.size := by omega
        obtain ⟨x, hx⟩ := getElem?_some_of_lt (l := c) (k := q) (by rw [HCL.out]; exact hql)
        have hxc := HO.out.cell HCL.out.symm hx
        have n4 := Near.cell (w := wr.drew) (row := none) hxc (by simp)
        have hqi : ((bit : Int) + (k : Int)) / 8 = (q : Int) := by omega
        have hq0 : (0 : Int) ≤ (q : Int) := by omega
        have hq1 : (q : Int) < (d.size : Int) := by omega
        obtain ⟨r, hr⟩ : ∃ r, (bit + k) % 8 = r := ⟨_, rfl⟩
        have hr8 : r < 8 := by omega
        have hr0 : (0 : Int) ≤ (r : Int) := by omega
        have hr1 : (r : Int) < 8 := by omega
        have t1 : ((bit : Int) + (k : Int)).tdiv 8 = (q : Int) := by rw [Int.tdiv_eq_ediv_of_nonneg (by omega)]; omega
        have t2 : ((bit : Int) + (k : Int)).tmod 8 = (r : Int) := by rw [Int.tmod_eq_emod_of_nonneg (by omega)]; omega
        have t3 : IntKind.i64.wrap (q : Int) = (q : Int) := by rw [IntKind.wrap_i64]; omega
        have t4 : IntKind.i64.wrap (r : Int) = (r : Int) := by rw [IntKind.wrap_i64]; omega
        have HQ := Lib.hid hq
        have HR := Lib.hid hr
        have HX := Lib.hid hx
        clear hq hx hxc hr
        refine wp_region_mix (fun w' => ∃ x : Near wr.drew none, w' = x.world) [21] 22 (by kernel_rfl) rfl ?_
        refine mix_reads_lit [0, 1, 2, 3, 4, 5, 6, 7, 8, 9, 10, 11, 12, 13, 14, 15, 16, 17, 18, 19, 20] 1 (by kernel_rfl) (by kernel_rfl) (by kernel_rfl) (by kernel_rfl) rfl (NearC.of (World.grownBy.refl _ _)) ?_
        simp only [pick, List.filterMap_cons, List.filterMap_nil, List.getElem?_cons_succ, List.getElem?_cons_zero]
        repeat (first | go_big_quiet_step (fail) | quiet_step (fail))
        refine wpQuiet_nil ?_
        obtain ⟨Y, hY⟩ : ∃ Y : UInt8, (if mask.getLsbD k = true then x ^^^ UInt8.ofNat (2 ^ r) else x) = Y := ⟨_, rfl⟩
        have hsp := corrupt_spell x mask k r hr8
        rw [hY] at hsp
        have hfr := (show Own wr.drew 0 (.slice (some ⟨g.1, 0, none⟩) d.size g.2) c from HO.out).free HCL.out.symm q
        have hce := (show Own wr.drew 0 (.slice (some ⟨g.1, 0, none⟩) d.size g.2) c from HO.out).cell HCL.out.symm HX.out
        refine mix_deed_lit 21 0 (by kernel_rfl) (by kernel_rfl) rfl (fun K hK => ?_)
        simp only [comesUp, List.getElem?_cons_succ, List.getElem?_cons_zero]
        refine if_mk rfl ?_
        go_simp
        refine hK _ _ (fun h => by simp [keeps] at h) ?_
        clear hK K
        have hnew : Own (wr.drew.setCell ⟨g.1, q, none⟩ (.int .u8 (Y.toNat : Int))) 0 (.slice (some ⟨g.1, 0, none⟩) d.size g.2) (changed (Bk.lastB d i) bit mask (k + 1)) := by
          have h1 := (show Own wr.drew 0 (.slice (some ⟨g.1, 0, none⟩) d.size g.2) c from HO.out).set (k := q) HCL.out.symm Y
          have e : c.set q Y = changed (Bk.lastB d i) bit mask (k + 1) := by
            rw [← hY]
            cases hm : mask.getLsbD k with
            | true => rw [if_pos rfl, ← HR.out]; exact changed_hit HC.out hm HQ.out HX.out
            | false => rw [if_neg (by simp), Bk.set_same HX.out]; exact changed_miss HC.out hm
          rw [e] at h1
          exact h1
        have HN := Lib.hid (CorI.next (wr := wr.drew) ⟨HI.out.1.drew, HI.out.2.same (Beside.of_below (Below.refl _ _).drew)⟩ HGI.out (grownBy_set (World.grownBy.refl _ _) q (.int .u8 (Y.toNat : Int))) hnew)
        clear hnew hsp hY hfr hce t1 t2 t3 t4
        refine mix_done_lit (by kernel_rfl) ?_
        go_wp2_with fail
        go_roundw
        case rel => exact ⟨k + 1, by omega, by go_num, HN.out⟩
        case measure => simp [intOf]; omega
      · have HN := Lib.hid (HI.out.skip (by rw [HC.out]; exact changed_out HC.out (by rw [HCL.out]; omega)))
        have hat1 : 8 * (d.size : Int) ≤ (bit : Int) + (k : Int) := by omega
        clear hat
        go_wp2_with fail
        go_roundw
        case rel => exact ⟨k + 1, by omega, by go_num, HN.out⟩
        case measure => simp [intOf]; omega
    · obtain rfl : k = 32 := by omega
      clear hi
      go_wp2_with fail
      go_ret
      exact ⟨F, [], _, rfl, ErrIs.nil _ _ _, ⟨_, _, _, _, _, HI.out.1⟩, HI.out.2, Grows.refl HF.out HI.out.2.size⟩
theorem corrupt_does {F : Nat → Prop} {w : World} {p n : Nat} {d : Bk.Disk} (hd : DiskAt F w p d) (ho : Bk.Ok n d) (hF : Held F w) (i bit : Int) (mask : BitVec 32) (A : Nat → Addr) (hs : Sents w A) :
    Calls Tryd.prog 28 #[.pointer (some ⟨p, 0, none⟩), .int .i64 i, .int .i64 bit, .int .u32 (mask.toNat : Int)] w (Does F w A p (Bk.corrupt d i bit mask).1 (Bk.corrupt d i bit mask).2) := by
  unfold Bk.corrupt Bk.In
  by_cases h : i < 0 ∨ (d.blocks : Int) ≤ i
  · rw [if_neg (by omega)]
    exact corrupt_out hd hF i bit _ h A hs
  · by_cases hb : bit < 0 ∨ (8 * d.size : Int) ≤ bit
    · rw [if_neg (by omega)]
      exact corrupt_bit hd ho hF i bit _ (by omega) (by omega) hb A hs
    · rw [if_pos (by omega)]
      obtain ⟨j, rfl⟩ : ∃ j : Nat, i = (j : Int) := ⟨i.toNat, by omega⟩
      obtain ⟨b, rfl⟩ : ∃ b : Nat, bit = (b : Int) := ⟨bit.toNat, by omega⟩
      exact corrupt_in hd ho hF j b mask (by omega) (by omega) A
end Go.Proofs.YtflbioiildndoaaDoor
