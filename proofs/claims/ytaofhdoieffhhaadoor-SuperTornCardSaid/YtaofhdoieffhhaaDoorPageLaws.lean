/- pages: awake, and the walks of layer 5's statements -/
import Derived.Test.YtaofhdoieffhhaaDoorRefOpenAt
import Derived.Test.YtaofhdoieffhhaaDoorFaultPage
import Derived.Test.YtaofhdoieffhhaaDoorTells05
import Derived.Test.YtaofhdoieffhhaaDoorBox
import Derived.Lib.SlBytesConst
namespace Go.Proofs.YtaofhdoieffhhaaDoor
open Go.RowKit
set_option linter.unusedVariables false
set_option linter.unusedSimpArgs false

/-- bytes that a literal lays in a block of its own -/
theorem bytes_new (w : World) (l : List UInt8) (t : TypeId) (fz : Nat × Nat) (n : Nat) (hn : n = l.length) (h : l.length ≤ 1000) : BytesAt (w.alloc (.cells (l.map fun x => Value.int .u8 (x.toNat : Int)).toArray t fz)) (.slice (some ⟨w.heap.size, 0, none⟩) n n) l := by
  subst hn
  refine ⟨_, _, rfl, Nat.le_refl _, by unfold maxLen; omega, .inr ⟨w.heap.size, 0, rfl, fun i x hx => ?_⟩⟩
  rw [cell_of_row _ w.heap.size (0 + i) _ t fz (heap_alloc_new w _)]
  simp [hx]

/-- what is owned stays, where a box is laid beside it -/
theorem own_alloc_box {w : World} {S : Nat} {v : Value} {l : List UInt8} (h : Own w S v l) {o : Obj} {v0 v1 v2 v3 : Value} :
    Own (((((w.alloc o).setCell ⟨w.heap.size, 0, none⟩ v0).setCell ⟨w.heap.size, 1, none⟩ v1).setCell ⟨w.heap.size, 2, none⟩ v2).setCell ⟨w.heap.size, 3, none⟩ v3) S v l := by
  have hne : v.ownBlock = none ∨ v.ownBlock ≠ some w.heap.size := by
    cases hv : v.ownBlock with
    | none => exact .inl rfl
    | some k => right; intro e; have := (h.lt k hv).2; simp at e; omega
  exact own_sets (own_sets (own_sets (own_sets (h.alloc o) hne 0 v0) hne 1 v1) hne 2 v2) hne 3 v3
def awakeP : Pg.Page := ⟨3, 3, 1, [97, 98]⟩
theorem awake_check : Pg.checkC awakeP (256 : Nat) = 0 := by decide
theorem awake_opens : Pg.opens (Pg.sealL awakeP 256) ∧ Pg.readL (Pg.sealL awakeP 256) = awakeP := Pg.opens_seal awake_check (by decide)
theorem awake_openAt : Pg.openAtL (Pg.sealL awakeP 256) 3 = (awakeP, 0, -1) := by
  unfold Pg.openAtL
  rw [if_neg (by rw [(Pg.open_code _).2 awake_opens.1]; decide), Pg.open_page awake_opens.1, awake_opens.2]
  rfl
theorem awakeSeal (a : Option Addr) (c : Nat) (w : World) (A : Nat → Addr) {S : Nat → Prop} [Has S 1] [Has S 2] [Has S 5] (hs : SentsOn S w A) (hb : BytesAt w (.slice a 2 c) [97, 98]) :
    Calls Tryd.prog 14 #[.agg #[.int .i64 3, .int .i64 3, .int .u64 1, .slice a 2 c], .int .i64 256] w fun e w' => (∃ a2 c2, e = .returned (.tuple #[.slice a2 256 c2, .nilIface]) ∧ Own w' w.heap.size (.slice a2 256 c2) (Pg.sealL awakeP 256)) ∧ Below w.heap.size w w' := by
  refine (seal_ok awakeP a c 256 w A hs hb awake_check (by decide)).mono fun e w' ⟨h, hb⟩ => ⟨?_, hb⟩
  obtain ⟨a2, c2, rfl, ho⟩ := h.seen
  rw [Pg.seal_length (by decide)] at ho ⊢
  exact ⟨a2, c2, rfl, ho⟩
theorem awakeOpen (a : Option Addr) (c : Nat) (w : World) (A : Nat → Addr) {S : Nat → Prop} [Has S 1] [Has S 2] [Has S 5] (hs : SentsOn S w A) (hb : BytesAt w (.slice a 256 c) (Pg.sealL awakeP 256)) :
    Calls Tryd.prog 37 #[.slice a 256 c, .int .i64 3] w fun e w' => (∃ a2 c2, e = .returned (.tuple #[.agg #[.int .i64 3, .int .i64 3, .int .u64 1, .slice a2 2 c2], .nilIface]) ∧ Own w' w.heap.size (.slice a2 2 c2) [97, 98]) ∧ Below w.heap.size w w' := by
  have hl : (Pg.sealL awakeP 256).length = 256 := Pg.seal_length (by decide)
  have := openAt_any a c (Pg.sealL awakeP 256) 3 w A hs (by rw [hl]; exact hb)
  rw [hl] at this
  refine this.mono fun e w' ⟨h, hb⟩ => ⟨?_, hb⟩
  rw [awake_openAt] at h
  obtain ⟨a2, c2, ev, lp, he, ho, hE, _, _⟩ := h
  obtain ⟨rfl, _⟩ := hE.isNil
  exact ⟨a2, c2, he, ho⟩

set_option maxRecDepth 100000 in
set_option maxHeartbeats 2000000 in
theorem pageAwake_any (w : World) (A : Nat → Addr) {S : Nat → Prop} [Has S 1] [Has S 2] [Has S 5] (hs : SentsOn S w A) : Calls Tryd.prog 18 #[] w fun e w' => e = .returned (.bool true) ∧ Below w.heap.size w w' := by
  have HS := Lib.hid hs
  have hlit := bytes_new w [97, 98] 5 (2, 3) 2 rfl (by decide)
  simp only [List.map_cons, List.map_nil] at hlit
  have HT := Lib.hid hlit
  have hcv := Go.Lib.run_convert_bytes_const w 23 5 #[.int .u8 97, .int .u8 98] 2 2 Tryd.underlying23 Tryd.underlying5
  clear hlit hs
  go_enter Tryd.func18, Tryd.ntmps18
  go_upto_region 2 with (go_at_call 14; (refine (awakeSeal _ _ _ A (HS.out.below (by go_grown)) HT.out).mono ?_); (rintro e w1 ⟨⟨a1, c1, rfl, ho1⟩, hb1⟩); (have HO1 := Lib.hid ho1); (have HB1 := Lib.hid ((show Below w.heap.size w _ by go_grown).trans (hb1.mono (by simp)))); (clear ho1 hb1))
  go_upto_region 3 with (go_at_call 37; (refine (awakeOpen _ _ _ A (HS.out.below HB1.out) HO1.out.bytes).mono ?_); (rintro e w2 ⟨⟨a2, c2, rfl, ho2⟩, hb2⟩); (have HO2 := Lib.hid ho2); (have HB2 := Lib.hid (HB1.out.trans (hb2.mono HB1.out.size))); (have hs2 := hb2.size); (clear ho2 hb2))
  refine wp_name fun W hW => ?_
  have hB : Below w.heap.size w W := by rw [hW]; have := HB2.out; have := this.size; go_grown
  have hX : Box4 W w2.heap.size (.int .i64 3) (.int .i64 3) (.int .u64 1) (.slice a2 2 c2) := by rw [hW]; exact Box4.new _ _ _ _ _ _
  have hstr := string_of (show BytesAt W (.slice a2 2 c2) [97, 98] by rw [hW]; exact (HO2.out.alloc _).bytes)
  obtain ⟨m0, m1, m2, m3, -, -, -, -⟩ := hX
  clear hW
  go_wp2
  go_ret
  exact ⟨rfl, hB⟩
end Go.Proofs.YtaofhdoieffhhaaDoor
