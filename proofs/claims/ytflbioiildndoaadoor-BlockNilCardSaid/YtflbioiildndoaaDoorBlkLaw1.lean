/- the statements of disks: small, fill, awake -/
import Derived.Test.YtflbioiildndoaaDoorRefBlk8
import Derived.Test.YtflbioiildndoaaDoorTells04
namespace Go.Proofs.YtflbioiildndoaaDoor
open Go.RowKit
set_option linter.unusedVariables false
set_option linter.unusedSimpArgs false

/-- the bytes of a block, by a number -/
def fillL (n : UInt8) : List UInt8 := (List.range 256).map fun i => n + UInt8.ofNat i
theorem fillL_length (n : UInt8) : (fillL n).length = 256 := by unfold fillL; rw [List.length_map, List.length_range]
theorem fillL_at (n : UInt8) {k : Nat} (hk : k < 256) : (fillL n)[k]? = some (n + UInt8.ofNat k) := by
  unfold fillL
  rw [List.getElem?_map, List.getElem?_range hk]
  rfl
/-- the first k bytes are laid -/
def fillK (n : UInt8) (k : Nat) : List UInt8 := (fillL n).take k ++ List.replicate (256 - k) 0
theorem fillK_zero (n : UInt8) : fillK n 0 = List.replicate 256 0 := by unfold fillK; rw [List.take_zero, List.nil_append, Nat.sub_zero]
theorem fillK_end (n : UInt8) : fillK n 256 = fillL n := by
  unfold fillK
  rw [List.take_of_length_le (by rw [fillL_length]; exact Nat.le_refl _), Nat.sub_self]
  exact List.append_nil _
theorem fillK_length (n : UInt8) {k : Nat} (hk : k ≤ 256) : (fillK n k).length = 256 := by
  unfold fillK
  rw [List.length_append, List.length_take, fillL_length, List.length_replicate]
  omega
theorem fillK_next (n : UInt8) {k : Nat} (hk : k < 256) : (fillK n k).set k (n + UInt8.ofNat k) = fillK n (k + 1) := by
  apply List.ext_getElem?
  intro j
  rw [List.getElem?_set]
  have hl := fillK_length n (Nat.le_of_lt hk)
  unfold fillK at hl ⊢
  by_cases hj : k = j
  · subst hj
    rw [if_pos rfl, if_pos (by rw [hl]; exact hk), List.getElem?_append_left (by rw [List.length_take, fillL_length]; omega), List.getElem?_take, if_pos (by omega), fillL_at n hk]
  · rw [if_neg hj]
    by_cases hjk : j < k
    · rw [List.getElem?_append_left (by rw [List.length_take, fillL_length]; omega), List.getElem?_append_left (by rw [List.length_take, fillL_length]; omega), List.getElem?_take, List.getElem?_take, if_pos hjk, if_pos (by omega)]
    · rw [List.getElem?_append_right (by rw [List.length_take, fillL_length]; omega), List.getElem?_append_right (by rw [List.length_take, fillL_length]; omega), List.length_take, List.length_take, fillL_length, List.getElem?_replicate, List.getElem?_replicate]
      by_cases h2 : j < 256
      · rw [if_pos (by omega), if_pos (by omega)]
      · rw [if_neg (by omega), if_neg (by omega)]
theorem fill_spell (n : UInt8) (k : Nat) : (((n.toNat : Int) + (k : Int)) % 256) = ((n + UInt8.ofNat k).toNat : Int) := by
  rw [UInt8.toNat_add, UInt8.toNat_ofNat']
  omega
set_option maxRecDepth 100000 in
theorem fill04_any (n : UInt8) (w : World) :
    Calls Tryd.prog 56 #[.int .u8 (n.toNat : Int)] w fun e w' => (∃ g c, e = .returned (.slice (some ⟨g, 0, none⟩) 256 c) ∧ Own w' w.heap.size (.slice (some ⟨g, 0, none⟩) 256 c) (fillL n)) ∧ Below w.heap.size w w' := by
  go_enter Tryd.func56, Tryd.ntmps56
  go_upto_region 2 with (at_make; (refine wpList_make_bytes rfl _ _ rfl 256 _ _ rfl rfl (by omega) (by omega) (by omega) ?_))
  intro w1 hown hgrow
  have hb1 := (Below.refl w.heap.size w).grown hgrow (Nat.le_refl _) (by intro k hk; cases hk)
  have HO := Lib.hid (show Own w1 w.heap.size (.slice (some ⟨w.heap.size, 0, none⟩) 256 256) (fillK n 0) by rw [fillK_zero]; exact hown)
  have HB1 := Lib.hid hb1
  clear hown hgrow hb1
  go_wp2_with fail
  go_loopw [4] (fun i wr => ∃ k : Nat, k ≤ 256 ∧ i = .int .i64 (k : Int) ∧ Own wr w.heap.size (.slice (some ⟨w.heap.size, 0, none⟩) 256 256) (fillK n k) ∧ Below w.heap.size w wr) (fun i _ => 256 - (intOf i).toNat)
  case atStart => exact ⟨0, by omega, rfl, HO.out, HB1.out⟩
  case round =>
    obtain ⟨k, hk, rfl, ho, hb⟩ := hrel
    have hl := fillK_length n hk
    have HK := Lib.hid ho
    have HBK := Lib.hid hb
    clear ho hb
    by_cases hlt : k < 256
    · have hlt1 : (k : Int) < 256 := by omega
      have hk0 : (0 : Int) ≤ (k : Int) := by omega
      obtain ⟨x, hx⟩ := getElem?_some_of_lt (l := fillK n k) (k := k) (by omega)
      have hcell := HK.out.cell hl.symm hx
      have hfree := HK.out.free hl.symm k
      have HS := Lib.hid (show Own (wr.setCell ⟨w.heap.size, k, none⟩ (.int .u8 ((n + UInt8.ofNat k).toNat : Int))) w.heap.size (.slice (some ⟨w.heap.size, 0, none⟩) 256 256) (fillK n (k + 1)) by rw [← fillK_next n hlt]; exact HK.out.set hl.symm k (n + UInt8.ofNat k))
      have HBS := Lib.hid (HBK.out.setCell (p := ⟨w.heap.size, k, none⟩) (Nat.le_refl _) (.int .u8 ((n + UInt8.ofNat k).toNat : Int)))
      clear hx hl
      go_wp2_with fail
      rw [fill_spell]
      go_roundw
      case rel => exact ⟨k + 1, by omega, by go_num, HS.out, HBS.out⟩
      case measure => simp [intOf]; omega
    · obtain rfl : k = 256 := by omega
      have HE := Lib.hid (show Own wr w.heap.size (.slice (some ⟨w.heap.size, 0, none⟩) 256 256) (fillL n) by have := HK.out; rwa [fillK_end] at this)
      clear hl
      go_wp2_with fail
      go_ret
      exact ⟨⟨_, _, rfl, HE.out⟩, HBK.out⟩
theorem fill04_nine (w : World) (L : List UInt8) (hL : fillL 9 = L) :
    Calls Tryd.prog 56 #[.int .u8 9] w fun e w' => (∃ g c, e = .returned (.slice (some ⟨g, 0, none⟩) 256 c) ∧ Own w' w.heap.size (.slice (some ⟨g, 0, none⟩) 256 c) L) ∧ Below w.heap.size w w' := by subst hL; exact fill04_any 9 w
theorem write_to {F : Nat → Prop} {w : World} {p n : Nat} {d E : Bk.Disk} {k : Nat} (hd : DiskAt F w p d) (ho : Bk.Ok n d) (hn : n ≤ 1000000) (hF : Held F w) (i : Int) (bv : Value) (b : List UInt8) (hE : Bk.put d i b = (E, k)) (hb : BytesAt w bv b) (A : Nat → Addr) (hsF : ∀ w1, Beside F w w1 → Sents w1 A) :
    Calls Tryd.prog 33 #[.pointer (some ⟨p, 0, none⟩), .int .i64 i, bv] w (Does F w A p E k) := by
  have := write_does hd ho hn hF i bv b hb A hsF
  rw [hE] at this
  exact this
theorem flush_to {F : Nat → Prop} {w : World} {p n : Nat} {d E : Bk.Disk} {k : Nat} (hd : DiskAt F w p d) (ho : Bk.Ok n d) (hF : Held F w) (hE : Bk.flush d = (E, k)) (A : Nat → Addr) (hsF : ∀ w1, Beside F w w1 → Sents w1 A) :
    Calls Tryd.prog 25 #[.pointer (some ⟨p, 0, none⟩)] w (Does F w A p E k) := by
  have := flush_does hd ho hF A hsF
  rw [hE] at this
  exact this
theorem arm_to {F : Nat → Prop} {w : World} {p : Nat} {d E : Bk.Disk} {k : Nat} (hd : DiskAt F w p d) (hF : Held F w) (after which cut : Int) (keepV : Value) (keep : List Bool) (hk : RowAt eBool w keepV keep) (hkl : keep.length ≤ 140737488355328) (hE : Bk.arm d after keep which cut = (E, k)) (A : Nat → Addr) (hs : Sents w A) :
    Calls Tryd.prog 29 #[.pointer (some ⟨p, 0, none⟩), .int .i64 after, keepV, .int .i64 which, .int .i64 cut] w (Does F w A p E k) := by
  have := arm_does hd hF after which cut keepV keep hk hkl A hs
  rw [hE] at this
  exact this
theorem corrupt_to {F : Nat → Prop} {w : World} {p n : Nat} {d E : Bk.Disk} {k : Nat} (hd : DiskAt F w p d) (ho : Bk.Ok n d) (hF : Held F w) (i bit : Int) (mask : BitVec 32) (hE : Bk.corrupt d i bit mask = (E, k)) (A : Nat → Addr) (hs : Sents w A) :
    Calls Tryd.prog 28 #[.pointer (some ⟨p, 0, none⟩), .int .i64 i, .int .i64 bit, .int .u32 (mask.toNat : Int)] w (Does F w A p E k) := by
  have := corrupt_does hd ho hF i bit mask A hs
  rw [hE] at this
  exact this
theorem crash_to {F : Nat → Prop} {w : World} {p n : Nat} {d E : Bk.Disk} (hd : DiskAt F w p d) (ho : Bk.Ok n d) (hF : Held F w)
    (keepV : Value) (keep : List Bool) (hk : RowAt eBool w keepV keep) (hkF : keep = [] ∨ ∀ k, keepV.ownBlock = some k → ¬ F k) (which cut : Int) (hE : Bk.crash d keep which cut = E) (A : Nat → Addr) :
    Calls Tryd.prog 26 #[.pointer (some ⟨p, 0, none⟩), keepV, .int .i64 which, .int .i64 cut] w (Does F w A p E 0) := by
  subst hE
  exact crash_does hd ho hF keepV keep hk hkF which cut A
theorem read_to {F : Nat → Prop} {w : World} {p n : Nat} {d : Bk.Disk} (hd : DiskAt F w p d) (ho : Bk.Ok n d) (i : Int) (h : Bk.In d i) (hoff : d.off = false) (l : List UInt8) (hl : Bk.read d i.toNat = l) :
    Calls Tryd.prog 18 #[.pointer (some ⟨p, 0, none⟩), .int .i64 i] w fun e w' => GivesB w l e w' ∧ Below w.heap.size w w' := read_ok hd ho i h.1 h.2 hoff l hl
theorem small04_is (w : World) :
    Calls Tryd.prog 34 #[] w fun e w' => e = .returned (.agg #[.int .i64 8, .int .i64 256]) ∧ Below w.heap.size w w' := by
  go_enter Tryd.func34, Tryd.ntmps34
  go_wp2_with fail
  refine bodyPost_ret (v := .agg #[.int .i64 8, .int .i64 256]) (by simp [results, Tryd.results34, go_sem]) rfl ?_
  exact ⟨rfl, by go_grown⟩
end Go.Proofs.YtflbioiildndoaaDoor
