/- a call of a space beside the document's: step, same, made -/
import Derived.Test.YtlkpdehajkffaaaDoorRefSpace4
import Derived.Test.YtlkpdehajkffaaaDoorSpaceLaws
namespace Go.Proofs.YtlkpdehajkffaaaDoor
open Go.RowKit
set_option linter.unusedVariables false
set_option linter.unusedSimpArgs false

theorem RefAt.form {w : World} {base : Nat} {v : Value} {l : List Int} (h : RefAt w base v l) : ∃ a n c, v = .agg #[.slice a n c] := by
  obtain ⟨a, c, rfl, _⟩ := h.row
  exact ⟨a, _, c, rfl⟩
theorem RefTo.form {w w' : World} {v v' : Value} {l l' : List Int} {base : Nat} (h : RefTo w v l w' v' l') (hr : RefAt w base v l) : ∃ a n c, v' = .agg #[.slice a n c] := by
  rcases h with h | ⟨rfl, _⟩
  · exact h.form
  · exact hr.form
theorem refTake_is {w : World} {base : Nat} {v : Value} {l : List Int} (hr : RefAt w base v l) (hl : Legal l) (hlen : l.length ≤ 256) :
    Calls Tryd.prog 30 #[v] w fun e w' => (∃ a n c, e = .returned (.tuple #[.agg #[.slice a n c], .int .i64 (takeI l), .int .i64 (takeC l : Nat)]) ∧ RefTo w v l w' (.agg #[.slice a n c]) (takeL l)) ∧ Below w.heap.size w w' :=
  (refTake_any hr hl hlen).mono fun e w' ⟨⟨v', he, hv⟩, hb⟩ => by
    obtain ⟨a, n, c, rfl⟩ := hv.form hr
    exact ⟨⟨a, n, c, he, hv⟩, hb⟩
def RefDid2 (w : World) (v : Value) (l l' : List Int) (k : Nat) (e : Ending) (w' : World) : Prop := ∃ a n c, e = .returned (.tuple #[.agg #[.slice a n c], .int .i64 (k : Int)]) ∧ RefTo w v l w' (.agg #[.slice a n c]) l'
theorem RefDid.two {w : World} {v : Value} {base : Nat} {l l' : List Int} {k : Nat} {e : Ending} {w' : World} (h : RefDid w v l l' k e w') (hr : RefAt w base v l) : RefDid2 w v l l' k e w' := by
  obtain ⟨v', he, hv⟩ := h
  obtain ⟨a, n, c, rfl⟩ := hv.form hr
  exact ⟨a, n, c, he, hv⟩
theorem RefAt.same {w w' : World} {base : Nat} {v : Value} {l : List Int} (h : RefAt w base v l) (hb : ∀ b, base ≤ b → b < w.heap.size → w'.heap[b]? = w.heap[b]?) : RefAt w' base v l := by
  obtain ⟨sl, rfl, h1, h2⟩ := h
  refine ⟨sl, rfl, h1, h2.imp id ?_⟩
  rintro ⟨g, cap, cur, rfl, hbg, hg, r⟩
  exact ⟨g, cap, cur, rfl, hbg, by rw [hb g hbg (heap_lt hg)]; exact hg, r⟩
/-- behind the other calls -/
theorem RefTo.fin {w w0 w1 wf : World} {base : Nat} {v v' : Value} {l l' : List Int} (h : RefTo w0 v l w1 v' l') (hr : RefAt w base v l) (hb : base ≤ w0.heap.size)
    (h1 : ∀ b, w0.heap.size ≤ b → b < w1.heap.size → wf.heap[b]? = w1.heap[b]?) (h2 : ∀ b, base ≤ b → b < w.heap.size → wf.heap[b]? = w.heap[b]?) : RefAt wf base v' l' := by
  rcases h with h | ⟨rfl, rfl⟩
  · exact (h.same h1).mono hb
  · exact hr.same h2
def Took (w : World) (A : Nat → Addr) (B p g : Nat) (l : List Int) (e : Ending) (w' : World) : Prop :=
  ∃ ev pages, e = .returned (.tuple #[.int .i64 (takeI l), ev]) ∧ ErrIs w' A w.heap.size pages (takeC l) ev ∧ SpaceAt w' B p g (takeL l) ∧ w.grownBy w' (some g)
theorem take_any {w : World} {B p g : Nat} {l : List Int} (hs : SpaceAt w B p g l) (A : Nat → Addr) (hsent : Sents w A) :
    Calls Tryd.prog 19 #[.pointer (some ⟨p, 0, none⟩)] w (Took w A B p g l) := by
  cases hf : takeFound l with
  | true =>
    refine (take_ok hs (takeK l) (takeK_at hf) (takeK_before l)).mono fun e w' ⟨he, h1, h2⟩ => ⟨.nilIface, [], ?_, ?_, ?_, h2⟩
    · rw [he]; unfold takeI; rw [if_pos hf]
    · unfold takeC; rw [if_pos hf]; exact ErrIs.nil _ _ _
    · unfold takeL; rw [if_pos hf]; exact h1
  | false =>
    refine (take_full hs (fun j => take_none hf j) A hsent).mono fun e w' ⟨ev, he, h1, h2⟩ => ⟨ev, [-1], ?_, ?_, ?_, grown_of_below h2 (Nat.le_refl _) _⟩
    · rw [he]; unfold takeI; rw [if_neg (by rw [hf]; decide)]
    · unfold takeC; rw [if_neg (by rw [hf]; decide)]; exact h1
    · unfold takeL; rw [if_neg (by rw [hf]; decide)]; exact hs.below h2

theorem SpaceAt.alloc {w : World} {B p g : Nat} {l : List Int} (h : SpaceAt w B p g l) (o : Obj) : SpaceAt (w.alloc o) B p g l := h.below ((Below.refl _ _).alloc (Nat.le_refl _) o)

theorem SpaceAt.other {w : World} {B p g : Nat} {l : List Int} (h : SpaceAt w B p g l) (r o : Nat) (v : Value) (hp : p ≠ r) (hg : g ≠ r) : SpaceAt (w.setCell ⟨r, o, none⟩ v) B p g l := by
  refine ⟨by rw [Below.heap_setCell _ _ _ _ hp]; exact h.ptr, ?_, h.ne, h.hp, h.len⟩
  exact h.row.grown (row := some r) (grownBy_set (World.grownBy.refl w (some r)) o v) (by simp [Value.ownBlock]; exact hg)
/-- a store into a block that was made since -/
theorem grown_new {w w' : World} {row : Option Nat} {a : Addr} (h : w.grownBy w' row) (ha : w.heap.size ≤ a.block) (v : Value) : w.grownBy (w'.setCell a v) row :=
  ⟨h.os, h.tape, h.output, by simpa using h.size, fun k hk hne => by
    rw [Below.heap_setCell _ _ _ _ (by omega)]
    exact h.block k hk hne⟩
theorem grown_drew {w w' : World} {row : Option Nat} (h : w.grownBy w' row) : w.grownBy w'.drew row := ⟨h.os, h.tape, h.output, h.size, h.block⟩
/-- a value that lies not in a block -/
def RefNe (v : Value) (r : Nat) : Prop := ∀ sl, v = .agg #[sl] → sl.ownBlock ≠ some r
theorem RefAt.apart {w : World} {base r : Nat} {v : Value} {l : List Int} (h : RefAt w base v l) (hr : r < base) : RefNe v r := by
  intro sl e hs
  obtain ⟨sl', rfl, h1⟩ := h
  obtain rfl : sl' = sl := by simpa using e
  have := (World.ownsRow.lt h1 r hs).1
  omega
theorem RefTo.apart {w0 w1 : World} {v v' : Value} {l l' : List Int} {r : Nat} (h : RefTo w0 v l w1 v' l') (hr : r < w0.heap.size) (hv : RefNe v r) : RefNe v' r := by
  rcases h with h | ⟨rfl, _⟩
  · exact h.apart hr
  · exact hv
theorem RefAt.setNe {w : World} {base r o : Nat} {v x : Value} {l : List Int} (h : RefAt w base v l) (hn : RefNe v r) : RefAt (w.setCell ⟨r, o, none⟩ x) base v l := by
  obtain ⟨sl, rfl, h1⟩ := h
  exact ⟨sl, rfl, World.ownsRow.kept h1 (grownBy_set (World.grownBy.refl w (some r)) o x) (.inr (hn sl rfl))⟩
/-- a call: the same told, the same left -/
def Stepped (w : World) (B p g base : Nat) (v : Value) (l : List Int) (e : Ending) (w' : World) : Prop :=
  ∃ a n c, e = .returned (.tuple #[.agg #[.slice a n c], .bool true]) ∧ SpaceAt w' B p g l ∧ RefAt w' base (.agg #[.slice a n c]) l ∧ w.grownBy w' (some g) ∧ ∀ r, r < w.heap.size → RefNe v r → RefNe (.agg #[.slice a n c]) r

set_option maxRecDepth 100000 in
set_option maxHeartbeats 1000000 in
theorem step_take {W w : World} {p g base : Nat} {v : Value} {l : List Int} (hW : Below W.heap.size W w) (hs : SpaceAt w W.heap.size p g l) (hr : RefAt w base v l) (hg : g < base) (hbase : base ≤ w.heap.size) (hl : Legal l) (id : Int) (A : Nat → Addr) (hsent : Sents W A) :
    Calls Tryd.prog 16 #[.pointer (some ⟨p, 0, none⟩), v, .agg #[.int .i64 0, .int .i64 id]] w (Stepped w W.heap.size p g base v (takeL l)) := by
  have HW := Lib.hid hW
  have HS := Lib.hid hs
  have HR := Lib.hid hr
  have HL := Lib.hid hl
  have HN := Lib.hid hsent
  have hlen := hs.len
  have hpw := hs.lt
  obtain ⟨a, n, c, rfl⟩ := hr.form
  clear hs hr hl hsent hW
  go_enter Tryd.func16, Tryd.ntmps16
  go_wp2_with (go_at_call 30; refine (refTake_is (((HR.out.alloc _).alloc _).alloc _) HL.out hlen).mono ?_; rintro e w1 ⟨⟨a1, n1, c1, rfl, hr1⟩, hb1⟩; obtain ⟨bc1, bf1⟩ := bcellB hb1)
  have hlt1 : w.heap.size + 1 + 1 < w1.heap.size := by have := hb1.size; simp at this; omega
  have HS1 := Lib.hid (((((HS.out.alloc _).alloc _).alloc _).below hb1).alloc (.cells #[.slice a1 n1 c1] 37))
  have HR1 := Lib.hid hr1
  have HB1 := Lib.hid (((show Below w.heap.size w _ by go_grown).trans (hb1.mono (by simp; omega))).alloc (by omega) (.cells #[.slice a1 n1 c1] 37))
  have HW1 := Lib.hid (HW.out.trans (HB1.out.mono HW.out.size))
  have HN1 := Lib.hid (HN.out.below HW1.out)
  have r1 : w1.cell? ⟨w.heap.size + 1 + 1, 0, none⟩ = some (.slice none 0 0) := by rw [bc1 _ _ (by simp)]; go_simp
  have r2 : w1.frozen? ⟨w.heap.size + 1 + 1, 0, none⟩ = false := by rw [bf1 _ _ (by simp)]; go_simp
  clear hb1 hr1 bc1 bf1
  go_wp2_with (go_at_call 19; refine (take_any HS1.out A HN1.out).mono ?_; rintro e w2 ⟨ev, pages, rfl, he2, hs2, hg2⟩)
  have hp := HS1.out.lt
  have x1 : w2.cell? ⟨w1.heap.size, 0, none⟩ = some (.slice a1 n1 c1) := grown_cell hg2 (by go_simp) (by simp; omega)
  have q1 : w2.cell? ⟨w.heap.size + 1 + 1, 0, none⟩ = some (.slice none 0 0) := grown_cell hg2 (by go_simp) (by simp; omega)
  have q2 : w2.frozen? ⟨w.heap.size + 1 + 1, 0, none⟩ = false := grown_frozen hg2 (by simp; omega) (by go_simp) (by simp; omega)
  have hlt2 : w1.heap.size < w2.heap.size := by have := hg2.size; simp at this; omega
  have HS2 := Lib.hid hs2
  have HF1 : Hid (∀ b, w.heap.size + 1 + 1 + 1 ≤ b → b < w1.heap.size → w2.heap[b]? = w1.heap[b]?) := Lib.hid fun b h1 h2 => by
    rw [hg2.block b (by simp; omega) (by simp; omega)]
    exact Below.heap_alloc _ _ _ h2
  have HG2 := Lib.hid (grown_trans (grown_of_below HB1.out (Nat.le_refl _) (some g)) hg2)
  have HE2 := Lib.hid he2
  have HN2 := Lib.hid (HN.out.below (HW1.out.trans (grown_below hg2 (fun k hk => by simp at hk; have := hs2.hg; omega) HW1.out.size)))
  clear r1 r2 hs2 hg2 he2
  have n0 := Near.cell (w := w2.drew) (row := some (w.heap.size + 1 + 1)) x1 (by simp; omega)
  refine wp_region_mix (fun w' => ∃ x : Near w2.drew (some (w.heap.size + 1 + 1)), w' = x.world) [] 11 (by kernel_rfl) rfl ?_
  refine mix_reads_lit [0, 1, 2] 8 (by kernel_rfl) (by kernel_rfl) (by kernel_rfl) (by kernel_rfl) rfl (NearC.of (World.grownBy.refl _ _)) ?_
  simp only [pick, List.filterMap_cons, List.filterMap_nil, List.getElem?_cons_succ, List.getElem?_cons_zero]
  repeat (first | go_big_quiet_step (fail) | quiet_step (fail))
  refine wpQuiet_nil ?_
  refine mix_deed_lit 3 7 (by kernel_rfl) (by kernel_rfl) rfl (fun K hK => ?_)
  simp only [comesUp, List.getElem?_cons_succ, List.getElem?_cons_zero]
  refine if_mk rfl ?_
  go_simp
  refine (tells09_any (HN2.out.below (Below.refl _ _).drew) pages _ _ (HE2.out.below (Below.refl _ _).drew) _ rfl).mono ?_
  rintro e w3 ⟨rfl, rfl⟩
  refine hK _ _ (fun _ _ => NearC.of (World.grownBy.refl _ _)) ?_
  clear hK K
  refine mix_reads_lit [4, 5, 6, 7, 8] 2 (by kernel_rfl) (by kernel_rfl) (by kernel_rfl) (by kernel_rfl) rfl (NearC.of (World.grownBy.refl _ _)) ?_
  simp only [pick, List.filterMap_cons, List.filterMap_nil, List.getElem?_cons_succ, List.getElem?_cons_zero]
  repeat (first | go_big_quiet_step (fail) | quiet_step (fail))
  refine wpQuiet_nil ?_
  refine mix_deed_lit 9 1 (by kernel_rfl) (by kernel_rfl) rfl (fun K hK => ?_)
  simp only [comesUp, List.getElem?_cons_succ, List.getElem?_cons_zero]
  refine if_mk rfl ?_
  go_simp
  refine hK _ _ (fun _ _ => NearC.of (grownBy_set (World.grownBy.refl _ _) _ _)) ?_
  clear hK K
  refine mix_deed_lit 10 0 (by kernel_rfl) (by kernel_rfl) rfl (fun K hK => ?_)
  simp only [comesUp, List.getElem?_cons_succ, List.getElem?_cons_zero]
  refine if_mk rfl ?_
  go_simp
  refine hK _ _ (fun _ _ => NearC.of (grownBy_set (World.grownBy.refl _ _) _ _)) ?_
  clear hK K
  refine mix_done_lit (by kernel_rfl) ?_
  go_wp2
  refine bodyPost_ret (v := .tuple #[.agg #[.slice a1 n1 c1], .bool true]) (by simp [results, Tryd.results16, go_sem, q1]) rfl ?_
  refine ⟨_, _, _, rfl, ?_, ?_, ?_, fun r hr hv => ?_⟩
  · exact (HS2.out.other _ _ _ (by omega) (by omega)).drew
  · refine RefTo.fin HR1.out HR.out (by simp; omega) (fun b h1 h2 => ?_) (fun b h1 h2 => ?_)
    · show (w2.setCell _ _).heap[b]? = _
      rw [Below.heap_setCell _ _ _ _ (by simp at h1 ⊢; omega)]
      exact HF1.out b (by simpa using h1) h2
    · show (w2.setCell _ _).heap[b]? = _
      rw [Below.heap_setCell _ _ _ _ (by simp; omega)]
      exact HG2.out.block b h2 (by simp; omega)
  · exact grown_drew (grown_new HG2.out (by show _ ≤ w.heap.size + 1 + 1; omega) _)
  · exact HR1.out.apart (by simp; omega) hv

set_option maxRecDepth 100000 in
set_option maxHeartbeats 1000000 in
theorem step_give {W w : World} {p g base : Nat} {v : Value} {l : List Int} (hW : Below W.heap.size W w) (hs : SpaceAt w W.heap.size p g l) (hr : RefAt w base v l) (hg : g < base) (hbase : base ≤ w.heap.size) (hl : Legal l) (id : Int) (A : Nat → Addr) (hsent : Sents W A) :
    Calls Tryd.prog 16 #[.pointer (some ⟨p, 0, none⟩), v, .agg #[.int .i64 1, .int .i64 id]] w (Stepped w W.heap.size p g base v (giveL l id)) := by
  have HW := Lib.hid hW
  have HS := Lib.hid hs
  have HR := Lib.hid hr
  have HL := Lib.hid hl
  have HN := Lib.hid hsent
  have hlen := hs.len
  have hpw := hs.lt
  obtain ⟨a, n, c, rfl⟩ := hr.form
  clear hs hr hl hsent hW
  go_enter Tryd.func16, Tryd.ntmps16
  go_wp2_with (go_at_call 31; refine (refGive_any (((HR.out.alloc _).alloc _).alloc _) HL.out hlen id).mono ?_; rintro e w1 ⟨hd1, hb1⟩; obtain ⟨a1, n1, c1, rfl, hr1⟩ := hd1.two (((HR.out.alloc _).alloc _).alloc _); obtain ⟨bc1, bf1⟩ := bcellB hb1)
  have hlt1 : w.heap.size + 1 + 1 < w1.heap.size := by have := hb1.size; simp at this; omega
  have HS1 := Lib.hid (((((HS.out.alloc _).alloc _).alloc _).below hb1).alloc (.cells #[.slice a1 n1 c1] 37))
  have HR1 := Lib.hid hr1
  have HB1 := Lib.hid (((show Below w.heap.size w _ by go_grown).trans (hb1.mono (by simp; omega))).alloc (by omega) (.cells #[.slice a1 n1 c1] 37))
  have HW1 := Lib.hid (HW.out.trans (HB1.out.mono HW.out.size))
  have HN1 := Lib.hid (HN.out.below HW1.out)
  have r1 : w1.cell? ⟨w.heap.size + 1 + 1, 0, none⟩ = some (.slice none 0 0) := by rw [bc1 _ _ (by simp)]; go_simp
  have r2 : w1.frozen? ⟨w.heap.size + 1 + 1, 0, none⟩ = false := by rw [bf1 _ _ (by simp)]; go_simp
  have m1 : w1.cell? ⟨w.heap.size + 1, 1, none⟩ = some (.int .i64 id) := by rw [bc1 _ _ (by simp)]; go_simp
  have hlt0 : w.heap.size + 1 < w1.heap.size := by omega
  have m0 : w1.cell? ⟨w.heap.size + 1, 0, none⟩ = some (.int .i64 1) := by rw [bc1 _ _ (by simp)]; go_simp
  clear hd1 hb1 hr1 bc1 bf1
  go_wp2
  generalize hwx : w1.alloc (.cells #[.slice a1 n1 c1] 37) = wx at *
  have HX := Lib.hid hwx
  clear hwx
  have x0 : wx.cell? ⟨w1.heap.size, 0, none⟩ = some (.slice a1 n1 c1) := by rw [← HX.out]; go_simp
  have x1 : wx.cell? ⟨w.heap.size + 1, 1, none⟩ = some (.int .i64 id) := by rw [← HX.out]; go_simp
  have y1 : wx.cell? ⟨w.heap.size + 1 + 1, 0, none⟩ = some (.slice none 0 0) := by rw [← HX.out]; go_simp
  have y2 : wx.frozen? ⟨w.heap.size + 1 + 1, 0, none⟩ = false := by rw [← HX.out]; go_simp
  have hltx : w1.heap.size < wx.heap.size := by rw [← HX.out]; simp
  have n0 := Near.cell (w := wx.drew) (row := some g) x0 (by simp; omega)
  have n1' := Near.cell (w := wx.drew) (row := some g) x1 (by simp; omega)
  refine wp_region_mix (fun w' => ∃ x : Near wx.drew (some g), w' = x.world) [7, 8] 9 (by kernel_rfl) rfl ?_
  refine mix_reads_lit [0, 1, 2, 3, 5] 4 (by kernel_rfl) (by kernel_rfl) (by kernel_rfl) (by kernel_rfl) rfl (NearC.of (World.grownBy.refl _ _)) ?_
  simp only [pick, List.filterMap_cons, List.filterMap_nil, List.getElem?_cons_succ, List.getElem?_cons_zero]
  repeat (first | go_big_quiet_step (fail) | quiet_step (fail))
  refine wpQuiet_nil ?_
  refine mix_deed_lit 4 3 (by kernel_rfl) (by kernel_rfl) rfl (fun K hK => ?_)
  simp only [comesUp, List.getElem?_cons_succ, List.getElem?_cons_zero]
  refine if_mk rfl ?_
  go_simp
  refine (give_any HS1.out.drew id A (HN1.out.below (Below.refl _ _).drew)).mono ?_
  rintro e w2 ⟨⟨ev, pages, rfl, he2⟩, hs2, hg2⟩
  refine hK _ _ (fun _ _ => NearC.of hg2) ?_
  clear hK K
  have q1 : w2.cell? ⟨w.heap.size + 1 + 1, 0, none⟩ = some (.slice none 0 0) := grown_cell hg2 y1 (by simp; omega)
  have q2 : w2.frozen? ⟨w.heap.size + 1 + 1, 0, none⟩ = false := grown_frozen hg2 (by simp; omega) y2 (by simp; omega)
  have hlt2 : w1.heap.size < w2.heap.size := by have := hg2.size; simp at this; omega
  have HS2 := Lib.hid hs2
  have HF1 : Hid (∀ b, w.heap.size + 1 + 1 + 1 ≤ b → b < w1.heap.size → w2.heap[b]? = w1.heap[b]?) := Lib.hid fun b h1 h2 => by
    rw [hg2.block b (by simp; omega) (by simp; omega)]
    show wx.heap[b]? = _
    rw [← HX.out]
    exact Below.heap_alloc _ _ _ h2
  have HG2 := Lib.hid (grown_trans (grown_of_below HB1.out.drew (Nat.le_refl _) (some g)) hg2)
  have HE2 := Lib.hid he2
  have HN2 := Lib.hid (HN.out.below (HW1.out.drew.trans (grown_below hg2 (fun k hk => by simp at hk; have := hs2.hg; omega) HW1.out.size)))
  have GG := Lib.hid hg2
  clear r1 r2 hs2 hg2 he2
  refine mix_deed_lit 6 2 (by kernel_rfl) (by kernel_rfl) rfl (fun K hK => ?_)
  simp only [comesUp, List.getElem?_cons_succ, List.getElem?_cons_zero]
  refine if_mk rfl ?_
  go_simp
  refine (tells09_any HN2.out pages _ _ HE2.out _ rfl).mono ?_
  rintro e w3 ⟨rfl, rfl⟩
  refine hK _ _ (fun _ _ => NearC.of GG.out) ?_
  clear hK K
  refine mix_deed_lit 7 1 (by kernel_rfl) (by kernel_rfl) rfl (fun K hK => ?_)
  simp only [comesUp, List.getElem?_cons_succ, List.getElem?_cons_zero]
  refine if_mk rfl ?_
  go_simp
  refine hK _ _ (fun h => by simp [keeps] at h) ?_
  clear hK K
  refine mix_deed_lit 8 0 (by kernel_rfl) (by kernel_rfl) rfl (fun K hK => ?_)
  simp only [comesUp, List.getElem?_cons_succ, List.getElem?_cons_zero]
  refine if_mk rfl ?_
  go_simp
  refine hK _ _ (fun h => by simp [keeps] at h) ?_
  clear hK K
  refine mix_done_lit (by kernel_rfl) ?_
  go_wp2
  refine bodyPost_ret (v := .tuple #[.agg #[.slice a1 n1 c1], .bool true]) (by simp [results, Tryd.results16, go_sem, q1]) rfl ?_
  refine ⟨_, _, _, rfl, ?_, ?_, ?_, fun r hr hv => ?_⟩
  · exact HS2.out.other _ _ _ (by omega) (by omega)
  · refine RefTo.fin HR1.out HR.out (by simp; omega) (fun b h1 h2 => ?_) (fun b h1 h2 => ?_)
    · rw [Below.heap_setCell _ _ _ _ (by simp at h1 ⊢; omega)]
      exact HF1.out b (by simpa using h1) h2
    · rw [Below.heap_setCell _ _ _ _ (by simp; omega)]
      exact HG2.out.block b h2 (by simp; omega)
  · exact grown_new HG2.out (by show _ ≤ w.heap.size + 1 + 1; omega) _
  · exact HR1.out.apart (by simp; omega) hv

set_option maxRecDepth 100000 in
set_option maxHeartbeats 1000000 in
theorem step_mark {W w : World} {p g base : Nat} {v : Value} {l : List Int} (hW : Below W.heap.size W w) (hs : SpaceAt w W.heap.size p g l) (hr : RefAt w base v l) (hg : g < base) (hbase : base ≤ w.heap.size) (hl : Legal l) (id : Int) (A : Nat → Addr) (hsent : Sents W A) :
    Calls Tryd.prog 16 #[.pointer (some ⟨p, 0, none⟩), v, .agg #[.int .i64 2, .int .i64 id]] w (Stepped w W.heap.size p g base v (markL l id)) := by
  have HW := Lib.hid hW
  have HS := Lib.hid hs
  have HR := Lib.hid hr
  have HL := Lib.hid hl
  have HN := Lib.hid hsent
  have hlen := hs.len
  have hpw := hs.lt
  obtain ⟨a, n, c, rfl⟩ := hr.form
  clear hs hr hl hsent hW
  go_enter Tryd.func16, Tryd.ntmps16
  go_wp2_with (go_at_call 32; refine (refMark_any (((HR.out.alloc _).alloc _).alloc _) HL.out hlen id).mono ?_; rintro e w1 ⟨hd1, hb1⟩; obtain ⟨a1, n1, c1, rfl, hr1⟩ := hd1.two (((HR.out.alloc _).alloc _).alloc _); obtain ⟨bc1, bf1⟩ := bcellB hb1)
  have hlt1 : w.heap.size + 1 + 1 < w1.heap.size := by have := hb1.size; simp at this; omega
  have HS1 := Lib.hid (((((HS.out.alloc _).alloc _).alloc _).below hb1).alloc (.cells #[.slice a1 n1 c1] 37))
  have HR1 := Lib.hid hr1
  have HB1 := Lib.hid (((show Below w.heap.size w _ by go_grown).trans (hb1.mono (by simp; omega))).alloc (by omega) (.cells #[.slice a1 n1 c1] 37))
  have HW1 := Lib.hid (HW.out.trans (HB1.out.mono HW.out.size))
  have HN1 := Lib.hid (HN.out.below HW1.out)
  have r1 : w1.cell? ⟨w.heap.size + 1 + 1, 0, none⟩ = some (.slice none 0 0) := by rw [bc1 _ _ (by simp)]; go_simp
  have r2 : w1.frozen? ⟨w.heap.size + 1 + 1, 0, none⟩ = false := by rw [bf1 _ _ (by simp)]; go_simp
  have m1 : w1.cell? ⟨w.heap.size + 1, 1, none⟩ = some (.int .i64 id) := by rw [bc1 _ _ (by simp)]; go_simp
  have hlt0 : w.heap.size + 1 < w1.heap.size := by omega
  have m0 : w1.cell? ⟨w.heap.size + 1, 0, none⟩ = some (.int .i64 2) := by rw [bc1 _ _ (by simp)]; go_simp
  clear hd1 hb1 hr1 bc1 bf1
  go_wp2
  generalize hwx : w1.alloc (.cells #[.slice a1 n1 c1] 37) = wx at *
  have HX := Lib.hid hwx
  clear hwx
  have x0 : wx.cell? ⟨w1.heap.size, 0, none⟩ = some (.slice a1 n1 c1) := by rw [← HX.out]; go_simp
  have x1 : wx.cell? ⟨w.heap.size + 1, 1, none⟩ = some (.int .i64 id) := by rw [← HX.out]; go_simp
  have y1 : wx.cell? ⟨w.heap.size + 1 + 1, 0, none⟩ = some (.slice none 0 0) := by rw [← HX.out]; go_simp
  have y2 : wx.frozen? ⟨w.heap.size + 1 + 1, 0, none⟩ = false := by rw [← HX.out]; go_simp
  have hltx : w1.heap.size < wx.heap.size := by rw [← HX.out]; simp
  have n0 := Near.cell (w := wx.drew) (row := some g) x0 (by simp; omega)
  have n1' := Near.cell (w := wx.drew) (row := some g) x1 (by simp; omega)
  refine wp_region_mix (fun w' => ∃ x : Near wx.drew (some g), w' = x.world) [7, 8] 9 (by kernel_rfl) rfl ?_
  refine mix_reads_lit [0, 1, 2, 3, 5] 4 (by kernel_rfl) (by kernel_rfl) (by kernel_rfl) (by kernel_rfl) rfl (NearC.of (World.grownBy.refl _ _)) ?_
  simp only [pick, List.filterMap_cons, List.filterMap_nil, List.getElem?_cons_succ, List.getElem?_cons_zero]
  repeat (first | go_big_quiet_step (fail) | quiet_step (fail))
  refine wpQuiet_nil ?_
  refine mix_deed_lit 4 3 (by kernel_rfl) (by kernel_rfl) rfl (fun K hK => ?_)
  simp only [comesUp, List.getElem?_cons_succ, List.getElem?_cons_zero]
  refine if_mk rfl ?_
  go_simp
  refine (mark_any HS1.out.drew id A (HN1.out.below (Below.refl _ _).drew)).mono ?_
  rintro e w2 ⟨⟨ev, pages, rfl, he2⟩, hs2, hg2⟩
  refine hK _ _ (fun _ _ => NearC.of hg2) ?_
  clear hK K
  have q1 : w2.cell? ⟨w.heap.size + 1 + 1, 0, none⟩ = some (.slice none 0 0) := grown_cell hg2 y1 (by simp; omega)
  have q2 : w2.frozen? ⟨w.heap.size + 1 + 1, 0, none⟩ = false := grown_frozen hg2 (by simp; omega) y2 (by simp; omega)
  have hlt2 : w1.heap.size < w2.heap.size := by have := hg2.size; simp at this; omega
  have HS2 := Lib.hid hs2
  have HF1 : Hid (∀ b, w.heap.size + 1 + 1 + 1 ≤ b → b < w1.heap.size → w2.heap[b]? = w1.heap[b]?) := Lib.hid fun b h1 h2 => by
    rw [hg2.block b (by simp; omega) (by simp; omega)]
    show wx.heap[b]? = _
    rw [← HX.out]
    exact Below.heap_alloc _ _ _ h2
  have HG2 := Lib.hid (grown_trans (grown_of_below HB1.out.drew (Nat.le_refl _) (some g)) hg2)
  have HE2 := Lib.hid he2
  have HN2 := Lib.hid (HN.out.below (HW1.out.drew.trans (grown_below hg2 (fun k hk => by simp at hk; have := hs2.hg; omega) HW1.out.size)))
  have GG := Lib.hid hg2
  clear r1 r2 hs2 hg2 he2
  refine mix_deed_lit 6 2 (by kernel_rfl) (by kernel_rfl) rfl (fun K hK => ?_)
  simp only [comesUp, List.getElem?_cons_succ, List.getElem?_cons_zero]
  refine if_mk rfl ?_
  go_simp
  refine (tells09_any HN2.out pages _ _ HE2.out _ rfl).mono ?_
  rintro e w3 ⟨rfl, rfl⟩
  refine hK _ _ (fun _ _ => NearC.of GG.out) ?_
  clear hK K
  refine mix_deed_lit 7 1 (by kernel_rfl) (by kernel_rfl) rfl (fun K hK => ?_)
  simp only [comesUp, List.getElem?_cons_succ, List.getElem?_cons_zero]
  refine if_mk rfl ?_
  go_simp
  refine hK _ _ (fun h => by simp [keeps] at h) ?_
  clear hK K
  refine mix_deed_lit 8 0 (by kernel_rfl) (by kernel_rfl) rfl (fun K hK => ?_)
  simp only [comesUp, List.getElem?_cons_succ, List.getElem?_cons_zero]
  refine if_mk rfl ?_
  go_simp
  refine hK _ _ (fun h => by simp [keeps] at h) ?_
  clear hK K
  refine mix_done_lit (by kernel_rfl) ?_
  go_wp2
  refine bodyPost_ret (v := .tuple #[.agg #[.slice a1 n1 c1], .bool true]) (by simp [results, Tryd.results16, go_sem, q1]) rfl ?_
  refine ⟨_, _, _, rfl, ?_, ?_, ?_, fun r hr hv => ?_⟩
  · exact HS2.out.other _ _ _ (by omega) (by omega)
  · refine RefTo.fin HR1.out HR.out (by simp; omega) (fun b h1 h2 => ?_) (fun b h1 h2 => ?_)
    · rw [Below.heap_setCell _ _ _ _ (by simp at h1 ⊢; omega)]
      exact HF1.out b (by simpa using h1) h2
    · rw [Below.heap_setCell _ _ _ _ (by simp; omega)]
      exact HG2.out.block b h2 (by simp; omega)
  · exact grown_new HG2.out (by show _ ≤ w.heap.size + 1 + 1; omega) _
  · exact HR1.out.apart (by simp; omega) hv

set_option maxRecDepth 100000 in
set_option maxHeartbeats 1000000 in
theorem step_commit {W w : World} {p g base : Nat} {v : Value} {l : List Int} (hW : Below W.heap.size W w) (hs : SpaceAt w W.heap.size p g l) (hr : RefAt w base v l) (hg : g < base) (hbase : base ≤ w.heap.size) (hl : Legal l) (kind id : Int) (hk : kind = 3) :
    Calls Tryd.prog 16 #[.pointer (some ⟨p, 0, none⟩), v, .agg #[.int .i64 kind, .int .i64 id]] w (Stepped w W.heap.size p g base v (commitL l)) := by
  have HW := Lib.hid hW
  have HS := Lib.hid hs
  have HR := Lib.hid hr
  have HL := Lib.hid hl
  have hlen := hs.len
  have hpw := hs.lt
  obtain ⟨a, n, c, rfl⟩ := hr.form
  subst hk
  clear hs hr hl hW
  go_enter Tryd.func16, Tryd.ntmps16
  go_wp2_with (go_at_call 22
               refine (commit_any (((HS.out.alloc _).alloc _).alloc _)).mono ?_
               rintro e w1 ⟨⟨v1, rfl⟩, hs1, hg1⟩
               have hlt1 : w.heap.size + 1 + 1 < w1.heap.size := by have := hg1.size; simp at this; omega
               have hlt2 : w.heap.size < w1.heap.size := by omega
               have r1 : w1.cell? ⟨w.heap.size + 1 + 1, 0, none⟩ = some (.slice none 0 0) := grown_cell hg1 (by go_simp) (by simp; omega)
               have r2 : w1.frozen? ⟨w.heap.size + 1 + 1, 0, none⟩ = false := grown_frozen hg1 (by simp) (by go_simp) (by simp; omega)
               have r3 : w1.cell? ⟨w.heap.size, 0, none⟩ = some (.slice a n c) := grown_cell hg1 (by go_simp) (by simp; omega)
               have HR1 := Lib.hid ((((HR.out.alloc _).alloc _).alloc _).keep hg1 hg)
               have HS1 := Lib.hid hs1
               have HG1 := Lib.hid (grown_trans (grown_of_below (show Below w.heap.size w _ by go_grown) (Nat.le_refl _) (some g)) hg1)
               clear hs1 hg1)
  go_wp2_with (go_at_call 23; refine (refCommit_any HR1.out HL.out hlen).mono ?_; rintro e w2 ⟨⟨a2, n2, c2, rfl, hr2⟩, hb2⟩; obtain ⟨bc2, bf2⟩ := bcellB hb2)
  have hq : w2.cell? ⟨w.heap.size + 1 + 1, 0, none⟩ = some (.slice none 0 0) := by rw [bc2 _ _ (by omega)]; exact r1
  refine bodyPost_ret (v := .tuple #[.agg #[.slice a2 n2 c2], .bool true]) (by simp [results, Tryd.results16, go_sem, hq]) rfl ?_
  have hs2 := hb2.size
  refine ⟨_, _, _, rfl, ?_, ?_, ?_, fun r hr hv => ?_⟩
  · exact (HS1.out.below hb2).other _ _ _ (by omega) (by omega)
  · exact (hr2.keep (grownBy_set (World.grownBy.refl _ (some (w.heap.size + 1 + 1))) 0 (.slice a2 n2 c2)) (by omega)).mono (by omega)
  · exact grown_new (grown_trans HG1.out (grown_of_below hb2 (Nat.le_refl _) (some g))) (by show _ ≤ w.heap.size + 1 + 1; omega) _
  · exact hr2.apart (by omega)

set_option maxRecDepth 100000 in
set_option maxHeartbeats 1000000 in
theorem step_roll {W w : World} {p g base : Nat} {v : Value} {l : List Int} (hW : Below W.heap.size W w) (hs : SpaceAt w W.heap.size p g l) (hr : RefAt w base v l) (hg : g < base) (hbase : base ≤ w.heap.size) (hl : Legal l) (kind id : Int) (hk : kind ≠ 0 ∧ kind ≠ 1 ∧ kind ≠ 2 ∧ kind ≠ 3) :
    Calls Tryd.prog 16 #[.pointer (some ⟨p, 0, none⟩), v, .agg #[.int .i64 kind, .int .i64 id]] w (Stepped w W.heap.size p g base v (rollL l)) := by
  have HW := Lib.hid hW
  have HS := Lib.hid hs
  have HR := Lib.hid hr
  have HL := Lib.hid hl
  have hlen := hs.len
  have hpw := hs.lt
  obtain ⟨a, n, c, rfl⟩ := hr.form
  obtain ⟨k0, k1, k2, k3⟩ : (kind == 0) = false ∧ (kind == 1) = false ∧ (kind == 2) = false ∧ (kind == 3) = false := by simpa using hk
  clear hk
  clear hs hr hl hW
  go_enter Tryd.func16, Tryd.ntmps16
  go_wp2_with (go_at_call 24
               refine (roll_any (((HS.out.alloc _).alloc _).alloc _)).mono ?_
               rintro e w1 ⟨⟨v1, rfl⟩, hs1, hg1⟩
               have hlt1 : w.heap.size + 1 + 1 < w1.heap.size := by have := hg1.size; simp at this; omega
               have hlt2 : w.heap.size < w1.heap.size := by omega
               have r1 : w1.cell? ⟨w.heap.size + 1 + 1, 0, none⟩ = some (.slice none 0 0) := grown_cell hg1 (by go_simp) (by simp; omega)
               have r2 : w1.frozen? ⟨w.heap.size + 1 + 1, 0, none⟩ = false := grown_frozen hg1 (by simp) (by go_simp) (by simp; omega)
               have r3 : w1.cell? ⟨w.heap.size, 0, none⟩ = some (.slice a n c) := grown_cell hg1 (by go_simp) (by simp; omega)
               have HR1 := Lib.hid ((((HR.out.alloc _).alloc _).alloc _).keep hg1 hg)
               have HS1 := Lib.hid hs1
               have HG1 := Lib.hid (grown_trans (grown_of_below (show Below w.heap.size w _ by go_grown) (Nat.le_refl _) (some g)) hg1)
               clear hs1 hg1)
  go_wp2_with (go_at_call 33; refine (refRollback_any HR1.out HL.out hlen).mono ?_; rintro e w2 ⟨⟨a2, n2, c2, rfl, hr2⟩, hb2⟩; obtain ⟨bc2, bf2⟩ := bcellB hb2)
  have hq : w2.cell? ⟨w.heap.size + 1 + 1, 0, none⟩ = some (.slice none 0 0) := by rw [bc2 _ _ (by omega)]; exact r1
  refine bodyPost_ret (v := .tuple #[.agg #[.slice a2 n2 c2], .bool true]) (by simp [results, Tryd.results16, go_sem, hq]) rfl ?_
  have hs2 := hb2.size
  refine ⟨_, _, _, rfl, ?_, ?_, ?_, fun r hr hv => ?_⟩
  · exact (HS1.out.below hb2).other _ _ _ (by omega) (by omega)
  · exact (hr2.keep (grownBy_set (World.grownBy.refl _ (some (w.heap.size + 1 + 1))) 0 (.slice a2 n2 c2)) (by omega)).mono (by omega)
  · exact grown_new (grown_trans HG1.out (grown_of_below hb2 (Nat.le_refl _) (some g))) (by show _ ≤ w.heap.size + 1 + 1; omega) _
  · exact hr2.apart (by omega)
end Go.Proofs.YtlkpdehajkffaaaDoor
