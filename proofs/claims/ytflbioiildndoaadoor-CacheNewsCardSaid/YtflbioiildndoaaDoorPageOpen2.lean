/- pages: the walks of page.Open, page.OpenAt -/
import Derived.Test.YtflbioiildndoaaDoorPageOpen
namespace Go.Proofs.YtflbioiildndoaaDoor
open Go.RowKit
set_option linter.unusedVariables false
set_option linter.unusedSimpArgs false

/-- a store below what a chain lies on -/
theorem ErrIs.setLow {w : World} {A : Nat → Addr} {B g j : Nat} {l : List Int} {k : Nat} {v : Value} (h : ErrIs w A B l k v) (u : Value) (hg : g < B) : ErrIs (w.setCell ⟨g, j, none⟩ u) A B l k v :=
  h.grown (grownBy_set (World.grownBy.refl w (some g)) j u) (fun k hk => by simp at hk; omega)
/-- what Open tells: a page, an error of a code, the page that the error names -/
def OpenErr (m : Nat) (w : World) (A : Nat → Addr) (r : Pg.Page × Nat × Int) (e : Ending) (w' : World) : Prop :=
  ∃ a c ev lp, e = .returned (.tuple #[pageV r.1 (.slice a r.1.body.length c), ev]) ∧ Own w' w.heap.size (.slice a r.1.body.length c) r.1.body ∧ ErrIs w' A w.heap.size lp r.2.1 ev ∧ pageOf lp = r.2.2 ∧ lp.length ≤ m
def zeroV : Value := .agg #[.int .i64 0, .int .i64 0, .int .u64 0, .slice none 0 0]
theorem zero_open {m : Nat} {w w' : World} {A : Nat → Addr} {k : Nat} {x : Int} {ev : Value} {lp : List Int} (h : ErrIs w' A w.heap.size lp k ev) (h1 : pageOf lp = x) (h2 : lp.length ≤ m) :
    OpenErr m w A (Pg.zero, k, x) (.returned (.tuple #[zeroV, ev])) w' := ⟨none, 0, ev, lp, rfl, Own.nil _ _, h, h1, h2⟩

theorem slice_some {w : World} {a : Option Addr} {n c : Nat} {l : List UInt8} (h : BytesAt w (.slice a n c) l) (hn : 0 < l.length) : ∃ b o, a = some ⟨b, o, none⟩ := by
  obtain ⟨a', c', e, _, _, hl⟩ := h
  simp only [Value.slice.injEq] at e
  obtain ⟨rfl, _, _⟩ := e
  rcases hl with rfl | ⟨b, o, rfl, _⟩
  · simp at hn
  · exact ⟨b, o, rfl⟩
theorem slice_len {w : World} {a : Option Addr} {n c : Nat} {l : List UInt8} (h : BytesAt w (.slice a n c) l) : n = l.length := by
  obtain ⟨a', c', e, _, _, hl⟩ := h
  simp only [Value.slice.injEq] at e
  exact e.2.1

set_option maxRecDepth 100000 in
theorem open_size (a : Option Addr) (c : Nat) (l : List UInt8) (w : World) (A : Nat → Addr) {S : Nat → Prop} [Has S 1] [Has S 2] [Has S 5] (hs : SentsOn S w A) (h : Pg.sized l.length = false) (hm : l.length ≤ 9223372036854775807) :
    Calls Tryd.prog 97 #[.slice a l.length c] w fun e w' => OpenErr 1 w A (Pg.zero, 2, -1) e w' ∧ Below w.heap.size w w' := by
  have g2 : w.cell? ⟨0, 0, none⟩ = some (.iface 171 (.pointer (some (A 2)))) := hs.cell 2 (by decide) (by decide)
  have l2 := World.block_lt_of_cell? w _ g2
  simp only at l2
  have HZ := Lib.hid h
  clear hs h
  go_enter Tryd.func97, Tryd.ntmps97
  go_wp2_with (first
    | (go_at_call 86; refine (sized_is _ false HZ.out _).mono ?_; rintro e w' ⟨rfl, rfl⟩)
    | (go_at_call 54; refine (faultNew_any _ 2 _ _ A _ (sent_err 2 (by decide) (by decide)) (by decide) (Nat.le_refl _)).mono ?_; rintro e w1 ⟨⟨v, rfl, hv⟩, hb⟩; obtain ⟨bc, bf⟩ := bcellB hb; have hsz := hb.size; simp only [World.size_alloc] at hsz))
  have m0 : w1.cell? ⟨w.heap.size, 0, none⟩ = some (.int .i64 0) := by rw [bc _ _ (by simp)]; go_simp
  have m1 : w1.cell? ⟨w.heap.size, 1, none⟩ = some (.int .i64 0) := by rw [bc _ _ (by simp)]; go_simp
  have m2 : w1.cell? ⟨w.heap.size, 2, none⟩ = some (.int .u64 0) := by rw [bc _ _ (by simp)]; go_simp
  have m3 : w1.cell? ⟨w.heap.size, 3, none⟩ = some (.slice none 0 0) := by rw [bc _ _ (by simp)]; go_simp
  have hbw : Below w.heap.size w w1 := (show Below w.heap.size w _ by go_grown).trans (hb.mono (by simp))
  refine bodyPost_ret (v := .tuple #[zeroV, v]) (by simp [results, Tryd.results97, go_sem, m0, m1, m2, m3, zeroV]) rfl ?_
  refine ⟨zero_open (lp := [-1]) ((((((hv.setLow _ ?q1).setLow _ ?q2).setLow _ ?q3).setLow _ ?q4)).mono ?q5) rfl (by simp), by go_grown⟩
  all_goals (simp; try omega)

theorem pageOf_max (x : Int) : pageOf [max x (-1)] = max x (-1) := by
  unfold pageOf pageOf
  split <;> omega
/-- a page's box: its four cells -/
structure Box4 (w : World) (r : Nat) (v0 v1 v2 v3 : Value) : Prop where
  c0 : w.cell? ⟨r, 0, none⟩ = some v0
  c1 : w.cell? ⟨r, 1, none⟩ = some v1
  c2 : w.cell? ⟨r, 2, none⟩ = some v2
  c3 : w.cell? ⟨r, 3, none⟩ = some v3
  f0 : w.frozen? ⟨r, 0, none⟩ = false
  f1 : w.frozen? ⟨r, 1, none⟩ = false
  f2 : w.frozen? ⟨r, 2, none⟩ = false
  f3 : w.frozen? ⟨r, 3, none⟩ = false
theorem Box4.new (w : World) (v0 v1 v2 v3 : Value) (t : TypeId) : Box4 (w.alloc (.cells #[v0, v1, v2, v3] t)) w.heap.size v0 v1 v2 v3 := by
  constructor <;> go_simp
theorem Box4.lt {w : World} {r : Nat} {v0 v1 v2 v3 : Value} (h : Box4 w r v0 v1 v2 v3) : r < w.heap.size := World.block_lt_of_cell? w _ h.c0
theorem Box4.below {w w' : World} {r : Nat} {v0 v1 v2 v3 : Value} (h : Box4 w r v0 v1 v2 v3) (hb : Below w.heap.size w w') : Box4 w' r v0 v1 v2 v3 := by
  obtain ⟨bc, bf⟩ := bcellB hb
  have hl := h.lt
  constructor
  · rw [bc _ _ hl]; exact h.c0
  · rw [bc _ _ hl]; exact h.c1
  · rw [bc _ _ hl]; exact h.c2
  · rw [bc _ _ hl]; exact h.c3
  · rw [bf _ _ hl]; exact h.f0
  · rw [bf _ _ hl]; exact h.f1
  · rw [bf _ _ hl]; exact h.f2
  · rw [bf _ _ hl]; exact h.f3
theorem Box4.alloc {w : World} {r : Nat} {v0 v1 v2 v3 : Value} (h : Box4 w r v0 v1 v2 v3) (o : Obj) : Box4 (w.alloc o) r v0 v1 v2 v3 := h.below ((Below.refl _ _).alloc (Nat.le_refl _) o)

/-- what page.read says, its page named by p -/
theorem read_is (b o c : Nat) (l : List UInt8) (p : Pg.Page) (hp : Pg.readL l = p) (w : World) (hb : BytesAt w (.slice (some ⟨b, o, none⟩) l.length c) l) (h1 : 24 ≤ l.length) (h2 : l.length ≤ 1024) :
    Calls Tryd.prog 104 #[.slice (some ⟨b, o, none⟩) l.length c] w fun e w' => (∃ a c, e = .returned (.agg #[.int .i64 p.kind, .int .i64 p.id, .int .u64 (p.gen : Int), .slice a p.body.length c]) ∧ Own w' w.heap.size (.slice a p.body.length c) p.body) ∧ Below w.heap.size w w' := by
  subst hp; exact read_any b o c l w hb h1 h2
theorem equal_is (v1 v2 : Value) (l1 l2 : List UInt8) (t : Bool) (ht : (l1 == l2) = t) (w : World) (h1 : BytesAt w v1 l1) (h2 : BytesAt w v2 l2) :
    Calls Tryd.prog 105 #[v1, v2] w fun e w' => e = .returned (.bool t) ∧ Below w.heap.size w w' := by subst ht; exact equal_any v1 v2 l1 l2 w h1 h2

set_option maxRecDepth 100000 in
set_option maxHeartbeats 2000000 in
theorem open_bad (b o c : Nat) (l : List UInt8) (w : World) (A : Nat → Addr) {S : Nat → Prop} [Has S 1] [Has S 2] [Has S 5] (hs : SentsOn S w A) (hb : BytesAt w (.slice (some ⟨b, o, none⟩) l.length c) l) (hz : Pg.sized l.length = true) (h : Pg.checkC (Pg.readL l) l.length ≠ 0) :
    Calls Tryd.prog 97 #[.slice (some ⟨b, o, none⟩) l.length c] w fun e w' => OpenErr 1 w A (Pg.zero, 5, Pg.named l) e w' ∧ Below w.heap.size w w' := by
  have g5 : w.cell? ⟨5, 0, none⟩ = some (.iface 171 (.pointer (some (A 5)))) := hs.cell 5 (by decide) (by decide)
  have l5 := World.block_lt_of_cell? w _ g5
  simp only at l5
  have hsz : 256 ≤ l.length ∧ l.length ≤ 1024 := by unfold Pg.sized at hz; simp at hz; omega
  have HZ := Lib.hid hz
  have HS := Lib.hid hs
  have HB := Lib.hid hb
  have hid : 0 ≤ (Pg.readL l).id := by show (0 : Int) ≤ ((Pg.num l 4 4 : Nat) : Int); omega
  have hid2 : (Pg.readL l).id < 4294967296 := by show ((Pg.num l 4 4 : Nat) : Int) < 4294967296; have := Pg.num_lt l 4 4; omega
  have HNM := Lib.hid (show Pg.named l = if (Pg.readL l).id ≤ 255 then (Pg.readL l).id else -1 by unfold Pg.named Pg.readL; simp only; split <;> split <;> omega)
  generalize hp : Pg.readL l = p at *
  have HP := Lib.hid hp
  have HC := Lib.hid h
  have hn : p.body.length ≤ 1024 := by
    subst hp
    show (if _ then _ else _ : List UInt8).length ≤ 1024
    split
    · rw [List.length_take, List.length_drop]; omega
    · simp
  clear hs hb hz h hp
  by_cases h256 : p.id ≤ 255
  all_goals
    go_enter Tryd.func97, Tryd.ntmps97
    go_wp2_with (first
      | (go_at_call 86; refine (sized_is _ true HZ.out _).mono ?_; rintro e w' ⟨rfl, rfl⟩)
      | (go_at_call 104; refine (read_is b o c l p HP.out _ (HB.out.alloc _) (by omega) (by omega)).mono ?_; rintro e w1 ⟨⟨a1, c1, rfl, ho1⟩, hb1⟩; have HX1 := Lib.hid ((Box4.new _ _ _ _ _ _).below hb1); have hs1 := hb1.size; simp only [World.size_alloc] at hs1; have hbw1 : Below w.heap.size w w1 := (show Below w.heap.size w _ by go_grown).trans (hb1.mono (by simp)))
      | (go_at_call 89; refine (seal_bad p a1 c1 l.length _ A (HS.out.below (by go_grown)) (by omega) (by omega) HC.out).mono ?_; rintro e w2 ⟨⟨t, x, lp, rfl, hE⟩, hb2⟩; have HX2 := Lib.hid ((HX1.out.alloc _).below hb2); have HY2 := Lib.hid ((Box4.new _ _ _ _ _ _).below hb2); obtain ⟨y0, y1, y2, y3, -, -, -, -⟩ := HY2.out; have hs2 := hb2.size; simp only [World.size_alloc] at hs2; have hbw2 : Below w.heap.size w w2 := (show Below w.heap.size w _ by go_grown).trans (hb2.mono (by simp; omega)); have g52 := (hbw2.cell (p := ⟨5, 0, none⟩) l5).trans g5)
      | (go_at_call 67; refine (faultAt_any _ _ [] 5 _ _ A _ (sent_err 5 (by decide) (by decide)) (by decide) (Nat.le_refl _)).mono ?_; rintro e w3 ⟨⟨v, rfl, hv⟩, hb3⟩; obtain ⟨m0, m1, m2, m3, f0, f1, f2, f3⟩ := HX2.out.below hb3; have hs3 := hb3.size; have hbw3 := hbw2.trans (hb3.mono (by omega))))
    refine bodyPost_ret (v := .tuple #[zeroV, v]) (by simp [results, Tryd.results97, go_sem, m0, m1, m2, m3, zeroV]) rfl ?_
    rw [HNM.out]
    exact ⟨zero_open (lp := _) ((((((hv.setLow _ (by omega)).setLow _ (by omega)).setLow _ (by omega)).setLow _ (by omega))).mono (by omega)) (by rw [pageOf_max]; split <;> omega) (by simp), by go_grown⟩

set_option maxRecDepth 100000 in
set_option maxHeartbeats 2000000 in
theorem open_neq (b o c : Nat) (l : List UInt8) (w : World) (A : Nat → Addr) {S : Nat → Prop} [Has S 1] [Has S 2] [Has S 5] (hs : SentsOn S w A) (hb : BytesAt w (.slice (some ⟨b, o, none⟩) l.length c) l) (hz : Pg.sized l.length = true) (h : Pg.checkC (Pg.readL l) l.length = 0) (hne : Pg.sealL (Pg.readL l) l.length ≠ l) :
    Calls Tryd.prog 97 #[.slice (some ⟨b, o, none⟩) l.length c] w fun e w' => OpenErr 1 w A (Pg.zero, 5, Pg.named l) e w' ∧ Below w.heap.size w w' := by
  have g5 : w.cell? ⟨5, 0, none⟩ = some (.iface 171 (.pointer (some (A 5)))) := hs.cell 5 (by decide) (by decide)
  have l5 := World.block_lt_of_cell? w _ g5
  simp only at l5
  have hsz : 256 ≤ l.length ∧ l.length ≤ 1024 := by unfold Pg.sized at hz; simp at hz; omega
  have HZ := Lib.hid hz
  have HS := Lib.hid hs
  have HB := Lib.hid hb
  have hid : 0 ≤ (Pg.readL l).id := by show (0 : Int) ≤ ((Pg.num l 4 4 : Nat) : Int); omega
  have hid2 : (Pg.readL l).id ≤ 255 := (Pg.check_ok h).2.2.1.2
  have hg := Pg.read_gen l
  have HNM := Lib.hid (show Pg.named l = (Pg.readL l).id by unfold Pg.named; rw [if_pos (by have := hid2; simp only [Pg.readL] at this; omega)]; rfl)
  generalize hp : Pg.readL l = p at *
  have HP := Lib.hid hp
  have HC := Lib.hid h
  have HE := Lib.hid (show (Pg.sealL p l.length == l) = false by simpa using hne)
  clear hs hb hz h hp hne
  go_enter Tryd.func97, Tryd.ntmps97
  go_wp2_with (first
      | (go_at_call 86; refine (sized_is _ true HZ.out _).mono ?_; rintro e w' ⟨rfl, rfl⟩)
      | (go_at_call 104; refine (read_is b o c l p HP.out _ (HB.out.alloc _) (by omega) (by omega)).mono ?_; rintro e w1 ⟨⟨a1, c1, rfl, ho1⟩, hb1⟩; have HO1 := Lib.hid ho1; clear ho1; have HX1 := Lib.hid ((Box4.new _ _ _ _ _ _).below hb1); have hs1 := hb1.size; simp only [World.size_alloc] at hs1; have hbw1 : Below w.heap.size w w1 := (show Below w.heap.size w _ by go_grown).trans (hb1.mono (by simp)))
      | (go_at_call 89; refine (seal_ok p a1 c1 l.length _ A (HS.out.below (by go_grown)) (HO1.out.bytes.alloc _) HC.out hg).mono ?_; rintro e w2 ⟨hgv, hb2⟩; obtain ⟨a2, c2, rfl, ho2⟩ := hgv.seen; have HO2 := Lib.hid ho2; clear hgv ho2; have HX2 := Lib.hid ((HX1.out.alloc _).below hb2); have HY2 := Lib.hid ((Box4.new _ _ _ _ _ _).below hb2); have hs2 := hb2.size; simp only [World.size_alloc] at hs2; have hbw2 : Below w.heap.size w w2 := (show Below w.heap.size w _ by go_grown).trans (hb2.mono (by simp; omega)))
      | (go_at_call 105; refine (equal_is _ _ _ l false HE.out _ HO2.out.bytes (HB.out.below hbw2)).mono ?_; rintro e w4 ⟨rfl, hb4⟩; have HX4 := Lib.hid (HX2.out.below hb4); obtain ⟨y0, y1, y2, y3, -, -, -, -⟩ := HY2.out.below hb4; have hs4 := hb4.size; have hbw4 := hbw2.trans (hb4.mono (by omega)); have g52 := (hbw4.cell (p := ⟨5, 0, none⟩) l5).trans g5)
      | (go_at_call 67; refine (faultAt_any _ _ [] 5 _ _ A _ (sent_err 5 (by decide) (by decide)) (by decide) (Nat.le_refl _)).mono ?_; rintro e w3 ⟨⟨v, rfl, hv⟩, hb3⟩; obtain ⟨m0, m1, m2, m3, f0, f1, f2, f3⟩ := HX4.out.below hb3; have hs3 := hb3.size; have hbw3 := hbw4.trans (hb3.mono (by omega))))
  refine bodyPost_ret (v := .tuple #[zeroV, v]) (by simp [results, Tryd.results97, go_sem, m0, m1, m2, m3, zeroV]) rfl ?_
  rw [HNM.out]
  exact ⟨zero_open (lp := _) ((((((hv.setLow _ (by omega)).setLow _ (by omega)).setLow _ (by omega)).setLow _ (by omega))).mono (by omega)) (by rw [pageOf_max]; omega) (by simp), by go_grown⟩

set_option maxRecDepth 100000 in
set_option maxHeartbeats 2000000 in
theorem open_ok (b o c : Nat) (l : List UInt8) (w : World) (A : Nat → Addr) {S : Nat → Prop} [Has S 1] [Has S 2] [Has S 5] (hs : SentsOn S w A) (hb : BytesAt w (.slice (some ⟨b, o, none⟩) l.length c) l) (h : Pg.opens l) :
    Calls Tryd.prog 97 #[.slice (some ⟨b, o, none⟩) l.length c] w fun e w' => OpenErr 1 w A (Pg.readL l, 0, -1) e w' ∧ Below w.heap.size w w' := by
  obtain ⟨h, hne⟩ := h
  have hz : Pg.sized l.length = true := by have := (Pg.check_ok h).1; unfold Pg.sized; simp; omega
  have hsz : 256 ≤ l.length ∧ l.length ≤ 1024 := by unfold Pg.sized at hz; simp at hz; omega
  have HZ := Lib.hid hz
  have HS := Lib.hid hs
  have HB := Lib.hid hb
  have hid : 0 ≤ (Pg.readL l).id := by show (0 : Int) ≤ ((Pg.num l 4 4 : Nat) : Int); omega
  have hid2 : (Pg.readL l).id ≤ 255 := (Pg.check_ok h).2.2.1.2
  have hg := Pg.read_gen l
  generalize hp : Pg.readL l = p at *
  have HP := Lib.hid hp
  have HC := Lib.hid h
  have HE := Lib.hid (show (Pg.sealL p l.length == l) = true by simpa using hne)
  clear hs hb hz h hp hne
  go_enter Tryd.func97, Tryd.ntmps97
  go_wp2_with (first
      | (go_at_call 86; refine (sized_is _ true HZ.out _).mono ?_; rintro e w' ⟨rfl, rfl⟩)
      | (go_at_call 104; refine (read_is b o c l p HP.out _ (HB.out.alloc _) (by omega) (by omega)).mono ?_; rintro e w1 ⟨⟨a1, c1, rfl, ho1⟩, hb1⟩; have HO1 := Lib.hid ho1; clear ho1; have HX1 := Lib.hid ((Box4.new _ _ _ _ _ _).below hb1); have hs1 := hb1.size; simp only [World.size_alloc] at hs1; have hbw1 : Below w.heap.size w w1 := (show Below w.heap.size w _ by go_grown).trans (hb1.mono (by simp)))
      | (go_at_call 89; refine (seal_ok p a1 c1 l.length _ A (HS.out.below (by go_grown)) (HO1.out.bytes.alloc _) HC.out hg).mono ?_; rintro e w2 ⟨hgv, hb2⟩; obtain ⟨a2, c2, rfl, ho2⟩ := hgv.seen; have HO2 := Lib.hid ho2; clear hgv ho2; have HX2 := Lib.hid ((HX1.out.alloc _).below hb2); have HY2 := Lib.hid ((Box4.new _ _ _ _ _ _).below hb2); have hs2 := hb2.size; simp only [World.size_alloc] at hs2; have hbw2 : Below w.heap.size w w2 := (show Below w.heap.size w _ by go_grown).trans (hb2.mono (by simp; omega)); have HO12 := Lib.hid ((HO1.out.alloc _).below hb2 (Nat.le_refl _)))
      | (go_at_call 105; refine (equal_is _ _ _ l true HE.out _ HO2.out.bytes (HB.out.below hbw2)).mono ?_; rintro e w4 ⟨rfl, hb4⟩; obtain ⟨m0, m1, m2, m3, f0, f1, f2, f3⟩ := HX2.out.below hb4; obtain ⟨y0, y1, y2, y3, -, -, -, -⟩ := HY2.out.below hb4; have hs4 := hb4.size; have hbw4 := hbw2.trans (hb4.mono (by omega)); have HO14 := Lib.hid (HO12.out.below hb4 (Nat.le_refl _))))
  refine bodyPost_ret (v := .tuple #[pageV p (.slice a1 p.body.length c1), .nilIface]) (by simp [results, Tryd.results97, go_sem, m0, m1, m2, m3, pageV]) rfl ?_
  exact ⟨⟨a1, c1, _, [], rfl, (Own.setLow (Own.setLow (Own.setLow (Own.setLow HO14.out _ (by simp)) _ (by simp)) _ (by simp)) _ (by simp)).mono (by simp), ErrIs.nil _ _ _, rfl, by simp⟩, by go_grown⟩

theorem open_any (a : Option Addr) (c : Nat) (l : List UInt8) (w : World) (A : Nat → Addr) {S : Nat → Prop} [Has S 1] [Has S 2] [Has S 5] (hs : SentsOn S w A) (hb : BytesAt w (.slice a l.length c) l) :
    Calls Tryd.prog 97 #[.slice a l.length c] w fun e w' => OpenErr 1 w A (Pg.openL l) e w' ∧ Below w.heap.size w w' := by
  have hm : l.length ≤ 9223372036854775807 := by
    obtain ⟨a', c', e, q1, q2, _⟩ := hb
    unfold maxLen at q2
    omega
  unfold Pg.openL
  split
  · rename_i h; exact open_size a c l w A hs h hm
  · rename_i h
    have hz : Pg.sized l.length = true := by simpa using h
    obtain ⟨b, o, rfl⟩ := slice_some hb (by unfold Pg.sized at hz; simp at hz; omega)
    split
    · rename_i ho; exact open_ok b o c l w A hs hb ho
    · rename_i ho
      by_cases hc : Pg.checkC (Pg.readL l) l.length = 0
      · exact open_neq b o c l w A hs hb hz hc (fun e => ho ⟨hc, e⟩)
      · exact open_bad b o c l w A hs hb hz hc
end Go.Proofs.YtflbioiildndoaaDoor
