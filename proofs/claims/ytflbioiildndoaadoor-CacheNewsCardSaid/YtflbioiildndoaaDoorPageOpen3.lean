/- pages: page.OpenAt, page.Same -/
import Derived.Test.YtflbioiildndoaaDoorPageOpen2
namespace Go.Proofs.YtflbioiildndoaaDoor
open Go.RowKit
set_option linter.unusedVariables false
set_option linter.unusedSimpArgs false

/-- Open of a block that opens not -/
theorem open_fail (a : Option Addr) (c : Nat) (l : List UInt8) (w : World) (A : Nat → Addr) {S : Nat → Prop} [Has S 1] [Has S 2] [Has S 5] (hs : SentsOn S w A) (hb : BytesAt w (.slice a l.length c) l) (h : ¬ Pg.opens l) :
    Calls Tryd.prog 97 #[.slice a l.length c] w fun e w' => (∃ a1 c1 t x lp, e = .returned (.tuple #[.agg #[.int .i64 0, .int .i64 0, .int .u64 0, .slice a1 0 c1], .iface t x]) ∧ ErrIs w' A w.heap.size lp (Pg.openL l).2.1 (.iface t x) ∧ pageOf lp = (Pg.openL l).2.2 ∧ lp.length ≤ 1) ∧ Below w.heap.size w w' := by
  refine (open_any a c l w A hs hb).mono fun e w' ⟨⟨a1, c1, ev, lp, he, ho, hE, hp, hl⟩, hb⟩ => ⟨?_, hb⟩
  obtain ⟨t, x, rfl⟩ := hE.iface (fun h0 => h ((Pg.open_code l).1 h0))
  rw [Pg.open_not h] at he
  exact ⟨a1, c1, t, x, lp, he, hE, hp, hl⟩
theorem open_good (a : Option Addr) (c : Nat) (l : List UInt8) (p : Pg.Page) (hp : Pg.readL l = p) (w : World) (A : Nat → Addr) {S : Nat → Prop} [Has S 1] [Has S 2] [Has S 5] (hs : SentsOn S w A) (hb : BytesAt w (.slice a l.length c) l) (h : Pg.opens l) :
    Calls Tryd.prog 97 #[.slice a l.length c] w fun e w' => (∃ a1 c1, e = .returned (.tuple #[.agg #[.int .i64 p.kind, .int .i64 p.id, .int .u64 (p.gen : Int), .slice a1 p.body.length c1], .nilIface]) ∧ Own w' w.heap.size (.slice a1 p.body.length c1) p.body) ∧ Below w.heap.size w w' := by
  subst hp
  refine (open_any a c l w A hs hb).mono fun e w' ⟨⟨a1, c1, ev, lp, he, ho, hE, hp, hl⟩, hb⟩ => ⟨?_, hb⟩
  rw [Pg.open_page h] at he ho hE
  obtain ⟨rfl, _⟩ := hE.isNil
  exact ⟨a1, c1, he, ho⟩

set_option maxRecDepth 100000 in
set_option maxHeartbeats 2000000 in
theorem openAt_fail (a : Option Addr) (c : Nat) (l : List UInt8) (id : Int) (w : World) (A : Nat → Addr) {S : Nat → Prop} [Has S 1] [Has S 2] [Has S 5] (hs : SentsOn S w A) (hb : BytesAt w (.slice a l.length c) l) (h : ¬ Pg.opens l) :
    Calls Tryd.prog 88 #[.slice a l.length c, .int .i64 id] w fun e w' => OpenErr 2 w A (Pg.zero, (Pg.openL l).2.1, (Pg.openL l).2.2) e w' ∧ Below w.heap.size w w' := by
  have HS := Lib.hid hs
  have HB := Lib.hid hb
  have HN := Lib.hid h
  have hk : (Pg.openL l).2.1 ≠ 0 := fun h0 => h ((Pg.open_code l).1 h0)
  have HK := Lib.hid hk
  clear hs hb h hk
  go_enter Tryd.func88, Tryd.ntmps88
  go_wp2_with (first
    | (go_at_call 97; refine (open_fail a c l _ A (HS.out.below (by go_grown)) (HB.out.alloc _) HN.out).mono ?_; rintro e w1 ⟨⟨a1, c1, t, x, lp, rfl, hE, hpl, hll⟩, hb1⟩; have HX1 := Lib.hid ((Box4.new _ _ _ _ _ _).below hb1); have hs1 := hb1.size; simp only [World.size_alloc] at hs1; have hbw1 : Below w.heap.size w w1 := (show Below w.heap.size w _ by go_grown).trans (hb1.mono (by simp)))
    | (go_at_call 71; refine (faultWrap_any _ lp _ _ _ A _ (hE.below ((Below.refl _ _).alloc (Nat.le_refl _) _)) HK.out (by simp; omega)).mono ?_; rintro e w3 ⟨⟨v, rfl, hv⟩, hb3⟩; obtain ⟨m0, m1, m2, m3, f0, f1, f2, f3⟩ := (HX1.out.alloc _).below hb3; have hs3 := hb3.size; simp only [World.size_alloc] at hs3; have hbw3 : Below w.heap.size w w3 := (show Below w.heap.size w _ by go_grown).trans (hb3.mono (by simp; omega))))
  refine bodyPost_ret (v := .tuple #[zeroV, v]) (by simp [results, Tryd.results88, go_sem, m0, m1, m2, m3, zeroV]) rfl ?_
  exact ⟨zero_open (lp := _) ((((((hv.setLow _ (by simp)).setLow _ (by simp)).setLow _ (by simp)).setLow _ (by simp))).mono (by simp)) (by rw [← hpl]; rfl) (by simp; omega), by go_grown⟩

set_option maxRecDepth 100000 in
set_option maxHeartbeats 2000000 in
theorem openAt_other (a : Option Addr) (c : Nat) (l : List UInt8) (id : Int) (w : World) (A : Nat → Addr) {S : Nat → Prop} [Has S 1] [Has S 2] [Has S 5] (hs : SentsOn S w A) (hb : BytesAt w (.slice a l.length c) l) (h : Pg.opens l) (hne : (Pg.readL l).id ≠ id) :
    Calls Tryd.prog 88 #[.slice a l.length c, .int .i64 id] w fun e w' => OpenErr 2 w A (Pg.zero, 5, max id (-1)) e w' ∧ Below w.heap.size w w' := by
  have g5 : w.cell? ⟨5, 0, none⟩ = some (.iface 171 (.pointer (some (A 5)))) := hs.cell 5 (by decide) (by decide)
  have l5 := World.block_lt_of_cell? w _ g5
  simp only at l5
  have HS := Lib.hid hs
  have HB := Lib.hid hb
  have HN := Lib.hid h
  generalize hp : Pg.readL l = p at *
  have HP := Lib.hid hp
  have hne2 : (p.id != id) = true := by simpa using hne
  clear hs hb h hp
  go_enter Tryd.func88, Tryd.ntmps88
  go_wp2_with (first
    | (go_at_call 97; refine (open_good a c l p HP.out _ A (HS.out.below (by go_grown)) (HB.out.alloc _) HN.out).mono ?_; rintro e w1 ⟨⟨a1, c1, rfl, ho1⟩, hb1⟩; have HX1 := Lib.hid ((Box4.new _ _ _ _ _ _).below hb1); have hs1 := hb1.size; simp only [World.size_alloc] at hs1; have hbw1 : Below w.heap.size w w1 := (show Below w.heap.size w _ by go_grown).trans (hb1.mono (by simp)); have g52 := (hbw1.cell (p := ⟨5, 0, none⟩) l5).trans g5; have lt1 : 5 < w1.heap.size := by omega)
    | (go_at_call 67; refine (faultAt_any _ _ [] 5 _ _ A _ (sent_err 5 (by decide) (by decide)) (by decide) (Nat.le_refl _)).mono ?_; rintro e w3 ⟨⟨v, rfl, hv⟩, hb3⟩; obtain ⟨m0, m1, m2, m3, f0, f1, f2, f3⟩ := (HX1.out.alloc _).below hb3; have hs3 := hb3.size; simp only [World.size_alloc] at hs3; have hbw3 : Below w.heap.size w w3 := (show Below w.heap.size w _ by go_grown).trans (hb3.mono (by simp; omega))))
  refine bodyPost_ret (v := .tuple #[zeroV, v]) (by simp [results, Tryd.results88, go_sem, m0, m1, m2, m3, zeroV]) rfl ?_
  exact ⟨zero_open (lp := _) ((((((hv.setLow _ (by simp; omega)).setLow _ (by simp; omega)).setLow _ (by simp; omega)).setLow _ (by simp; omega))).mono (by simp; omega)) (by rw [pageOf_max]) (by simp), by go_grown⟩

set_option maxRecDepth 100000 in
set_option maxHeartbeats 2000000 in
theorem openAt_ok (a : Option Addr) (c : Nat) (l : List UInt8) (id : Int) (w : World) (A : Nat → Addr) {S : Nat → Prop} [Has S 1] [Has S 2] [Has S 5] (hs : SentsOn S w A) (hb : BytesAt w (.slice a l.length c) l) (h : Pg.opens l) (hid : (Pg.readL l).id = id) :
    Calls Tryd.prog 88 #[.slice a l.length c, .int .i64 id] w fun e w' => OpenErr 2 w A (Pg.readL l, 0, -1) e w' ∧ Below w.heap.size w w' := by
  have HS := Lib.hid hs
  have HB := Lib.hid hb
  have HN := Lib.hid h
  generalize hp : Pg.readL l = p at *
  have HP := Lib.hid hp
  have hne2 : (p.id != id) = false := by simpa using hid
  have HID := Lib.hid hid
  clear hs hb h hp hid
  go_enter Tryd.func88, Tryd.ntmps88
  go_wp2_with (first
    | (go_at_call 97; (refine (open_good a c l p HP.out _ A (HS.out.below (by go_grown)) (HB.out.alloc _) HN.out).mono ?_); (rintro e w1 ⟨⟨a1, c1, rfl, ho1⟩, hb1⟩); (have HO1 := Lib.hid ho1); (clear ho1); (have HX1 := Lib.hid ((Box4.new _ _ _ _ _ _).below hb1)); (obtain ⟨m0, m1, m2, m3, f0, f1, f2, f3⟩ := HX1.out); (have hs1 := hb1.size); (simp only [World.size_alloc] at hs1); (have hbw1 : Below w.heap.size w w1 := (show Below w.heap.size w _ by go_grown).trans (hb1.mono (by simp))); (have k1 : w.heap.size < w1.heap.size := by omega); (have k2 : ¬ w1.heap.size = w.heap.size := Nat.ne_of_gt k1); (have k3 : ¬ w.heap.size = w1.heap.size := Nat.ne_of_lt k1)))
  refine bodyPost_ret (v := .tuple #[pageV p (.slice a1 p.body.length c1), .nilIface]) (by simp [results, Tryd.results88, go_sem, m0, m1, m2, m3, pageV, k1, k2, k3]) rfl ?_
  exact ⟨⟨a1, c1, _, [], rfl, (((Own.setLow (Own.setLow (Own.setLow (Own.setLow HO1.out _ (by simp)) _ (by simp)) _ (by simp)) _ (by simp)).alloc _).mono (by simp)), ErrIs.nil _ _ _, rfl, by simp⟩, by go_grown⟩

theorem openAt_any (a : Option Addr) (c : Nat) (l : List UInt8) (id : Int) (w : World) (A : Nat → Addr) {S : Nat → Prop} [Has S 1] [Has S 2] [Has S 5] (hs : SentsOn S w A) (hb : BytesAt w (.slice a l.length c) l) :
    Calls Tryd.prog 88 #[.slice a l.length c, .int .i64 id] w fun e w' => OpenErr 2 w A (Pg.openAtL l id) e w' ∧ Below w.heap.size w w' := by
  unfold Pg.openAtL
  by_cases h : Pg.opens l
  · rw [if_neg (by rw [(Pg.open_code l).2 h]; decide)]
    rw [Pg.open_page h]
    simp only
    by_cases hid : (Pg.readL l).id = id
    · rw [if_neg (by simpa using hid)]
      exact openAt_ok a c l id w A hs hb h hid
    · rw [if_pos hid]
      exact openAt_other a c l id w A hs hb h hid
  · rw [if_pos (fun h0 => h ((Pg.open_code l).1 h0))]
    have := openAt_fail a c l id w A hs hb h
    rwa [show (Pg.zero, (Pg.openL l).2.1, (Pg.openL l).2.2) = Pg.openL l by rw [← Pg.open_not h]] at this
end Go.Proofs.YtflbioiildndoaaDoor
