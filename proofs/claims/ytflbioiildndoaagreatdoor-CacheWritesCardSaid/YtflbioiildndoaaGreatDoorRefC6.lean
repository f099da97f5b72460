/- the document's caches: a cache in mid-walk (printed by wip/tools/gen_refc.py from rc/refchav.txt) -/
import Derived.Test.YtflbioiildndoaaGreatDoorRefC5
import Derived.Test.YtflbioiildndoaaGreatDoorQ12
import Derived.Test.YtflbioiildndoaaGreatDoorCacheI
namespace Go.Proofs.YtflbioiildndoaaGreatDoor
open Go.RowKit
set_option linter.unusedVariables false
set_option linter.unusedSimpArgs false

/-- in mid-walk: a cache in its box, the box of what is handed back empty, one box more; what the cache names is apart from them -/
structure Hav (G : Nat → Prop) (w : World) (nb rb eb : Nat) (V : World) (C : Ch.Cache) (s : Shp) (X : Nat → Prop) : Prop where
  ref : RefC X V C s
  box : BoxAt V nb (cellsC C s)
  res : BoxAt V rb zeroC
  apart : ∀ k, X k → (G k ∨ w.heap.size ≤ k) ∧ k < V.heap.size ∧ k ≠ nb ∧ k ≠ rb ∧ k ≠ eb
  below : Below w.heap.size w V
  low : w.heap.size ≤ nb ∧ w.heap.size ≤ rb ∧ w.heap.size ≤ eb
  lt : nb < V.heap.size ∧ rb < V.heap.size ∧ eb < V.heap.size
  ne : nb ≠ rb
section
variable {G X : Nat → Prop} {w V V' W : World} {nb rb eb : Nat} {C D : Ch.Cache} {s s' : Shp}
theorem Hav.held (h : Hav G w nb rb eb V C s X) : Held X V := fun k hk => (h.apart k hk).2.1
theorem Hav.later (h : Hav G w nb rb eb V C s X) (hb : Below V.heap.size V V') : Hav G w nb rb eb V' C s X where
  ref := h.ref.below h.held hb
  box := h.box.below hb
  res := h.res.below hb
  apart k hk := by
    obtain ⟨h1, h2, h3⟩ := h.apart k hk
    exact ⟨h1, Nat.lt_of_lt_of_le h2 hb.size, h3⟩
  below := below_step h.below hb
  low := h.low
  lt := by have := h.lt; have := hb.size; omega
  ne := h.ne
theorem Hav.drew (h : Hav G w nb rb eb V C s X) : Hav G w nb rb eb V.drew C s X := h.later (Below.refl _ _).drew
theorem Hav.more (h : Hav G w nb rb eb V C s X) (hb : Below V.heap.size V V') : ∀ k, More X V V' k → (G k ∨ w.heap.size ≤ k) ∧ k < V'.heap.size ∧ k ≠ nb ∧ k ≠ rb ∧ k ≠ eb := fun k hk => by
  have hl := h.lt
  have hs := hb.size
  rcases hk with hk | hk
  · obtain ⟨h1, h2, h3⟩ := h.apart k hk
    exact ⟨h1, by omega, h3⟩
  · have := h.below.size
    exact ⟨.inr (by omega), hk.2, by omega, by omega, by omega⟩
/-- another cache is stored into the box -/
theorem Hav.store (h : Hav G w nb rb eb V C s X) (hr : RefC (More X V V') V' D s') (hb : Below V.heap.size V V') (hg : V'.grownBy W (some nb)) (hx : BoxAt W nb (cellsC D s')) : Hav G w nb rb eb W D s' (More X V V') := by
  have hl := h.lt
  have hs := hb.size
  have hgs := hg.size
  have hw := h.low
  have hap := h.more hb
  refine ⟨hr.on fun k hk => hg.block k (hap k hk).2.1 (by intro e; cases e; exact (hap _ hk).2.2.1 rfl), hx, (h.res.below hb).on (hg.block rb (by omega) (by intro e; have e1 := Option.some.inj e; have e2 := h.ne; omega)), fun k hk => ?_, (below_step h.below hb).trans (below_of_grown hg hw.1 (by have := h.below.size; omega)), hw, by omega, h.ne⟩
  obtain ⟨h1, h2, h3⟩ := hap k hk
  exact ⟨h1, by omega, h3⟩
theorem Hav.wide (h : Hav G w nb rb eb V C s X) (hb : Below V.heap.size V V') : Hav G w nb rb eb V' C s (More X V V') :=
  ⟨(h.later hb).ref.mono fun k hk => .inl hk, (h.later hb).box, (h.later hb).res, h.more hb, (h.later hb).below, h.low, (h.later hb).lt, h.ne⟩
/-- what is handed back, the boxes behind it stored -/
theorem RefC.hand (hr : RefC X V C s) (hX : ∀ k, X k → (G k ∨ w.heap.size ≤ k) ∧ W.heap[k]? = V.heap[k]? ∧ k < W.heap.size) : RefC (More G w W) W C s :=
  (hr.on fun k hk => (hX k hk).2.1).mono fun k hk => by
    obtain ⟨h1, _, h3⟩ := hX k hk
    rcases h1 with h1 | h1
    · exact .inl h1
    · exact .inr ⟨h1, h3⟩
theorem Hav.doneOf (h : Hav G w nb rb eb V C s X) (hr : RefC (More X V V') V' D s') (hb : Below V.heap.size V V') (hg : V'.grownBy W (some rb)) : RefC (More G w W) W D s' ∧ Below w.heap.size w W := by
  have hgs := hg.size
  have hap := h.more hb
  refine ⟨RefC.hand hr fun k hk => ?_, (below_step h.below hb).trans (below_of_grown hg h.low.2.1 (by have := h.below.size; have := hb.size; omega))⟩
  obtain ⟨h1, h2, h3⟩ := hap k hk
  exact ⟨h1, hg.block k h2 (by intro e; have e1 := Option.some.inj e; have e2 := h3.2.1; omega), by omega⟩
/-- what is handed back is the cache of the box -/
theorem Hav.done (h : Hav G w nb rb eb V C s X) (hg : V.grownBy W (some rb)) : RefC (More G w W) W C s ∧ Below w.heap.size w W := by
  have hgs := hg.size
  refine ⟨RefC.hand h.ref fun k hk => ?_, h.below.trans (below_of_grown hg h.low.2.1 h.below.size)⟩
  obtain ⟨h1, h2, h3⟩ := h.apart k hk
  exact ⟨h1, hg.block k h2 (by intro e; have e1 := Option.some.inj e; have e2 := h3.2.1; omega), by omega⟩
end
section
variable {G X : Nat → Prop} {w V : World} {nb rb eb : Nat} {C : Ch.Cache} {sa la wa ka : Option Addr} {sc lc wq kc : Nat}
theorem Hav.x (h : Hav G w nb rb eb V C ⟨sa, sc, la, lc, wa, wq, ka, kc⟩ X) :
    V.cell? ⟨nb, 0, none⟩ = some (.slice sa C.slots.length sc) ∧ V.cell? ⟨nb, 1, none⟩ = some (.int .i64 (C.hand : Int)) ∧ V.cell? ⟨nb, 2, none⟩ = some (.int .i64 (C.disk.blocks : Int)) ∧ V.cell? ⟨nb, 3, none⟩ = some (.int .i64 (C.disk.size : Int)) ∧ V.cell? ⟨nb, 4, none⟩ = some (.slice la C.disk.lasting.length lc) ∧ V.cell? ⟨nb, 5, none⟩ = some (.slice wa C.disk.waiting.length wq) ∧ V.cell? ⟨nb, 6, none⟩ = some (.bool C.disk.lit) ∧ V.cell? ⟨nb, 7, none⟩ = some (.int .i64 C.disk.after) ∧ V.cell? ⟨nb, 8, none⟩ = some (.int .i64 C.disk.torn) ∧ V.cell? ⟨nb, 9, none⟩ = some (.int .i64 C.disk.cut) ∧ V.cell? ⟨nb, 10, none⟩ = some (.slice ka C.disk.keep.length kc) ∧ V.cell? ⟨nb, 11, none⟩ = some (.bool C.disk.off) ∧ V.cell? ⟨nb, 12, none⟩ = some (.int .i64 C.disk.count) := h.box.thirteen
theorem Hav.f (h : Hav G w nb rb eb V C ⟨sa, sc, la, lc, wa, wq, ka, kc⟩ X) :
    V.frozen? ⟨nb, 0, none⟩ = false ∧ V.frozen? ⟨nb, 1, none⟩ = false ∧ V.frozen? ⟨nb, 2, none⟩ = false ∧ V.frozen? ⟨nb, 3, none⟩ = false ∧ V.frozen? ⟨nb, 4, none⟩ = false ∧ V.frozen? ⟨nb, 5, none⟩ = false ∧ V.frozen? ⟨nb, 6, none⟩ = false ∧ V.frozen? ⟨nb, 7, none⟩ = false ∧ V.frozen? ⟨nb, 8, none⟩ = false ∧ V.frozen? ⟨nb, 9, none⟩ = false ∧ V.frozen? ⟨nb, 10, none⟩ = false ∧ V.frozen? ⟨nb, 11, none⟩ = false ∧ V.frozen? ⟨nb, 12, none⟩ = false := h.box.thirteenF
/-- the disk of the cache in the box, as a value -/
theorem Hav.disk (h : Hav G w nb rb eb V C ⟨sa, sc, la, lc, wa, wq, ka, kc⟩ X) : RefAt X V (.agg #[.int .i64 (C.disk.blocks : Int), .int .i64 (C.disk.size : Int), .slice la C.disk.lasting.length lc, .slice wa C.disk.waiting.length wq, .bool C.disk.lit, .int .i64 C.disk.after, .int .i64 C.disk.torn, .int .i64 C.disk.cut, .slice ka C.disk.keep.length kc, .bool C.disk.off, .int .i64 C.disk.count]) C.disk := h.ref.diskAt
theorem Hav.open_ {w W : World} (h : RefC G w C ⟨sa, sc, la, lc, wa, wq, ka, kc⟩) (hG : Held G w) (hw : w.heap.size ≤ nb ∧ w.heap.size ≤ rb ∧ w.heap.size ≤ eb) (hl : eb < W.heap.size) (hn : nb ≠ rb) (hx : BoxAt W nb ([.slice sa C.slots.length sc, .int .i64 (C.hand : Int), .int .i64 (C.disk.blocks : Int), .int .i64 (C.disk.size : Int), .slice la C.disk.lasting.length lc, .slice wa C.disk.waiting.length wq, .bool C.disk.lit, .int .i64 C.disk.after, .int .i64 C.disk.torn, .int .i64 C.disk.cut, .slice ka C.disk.keep.length kc, .bool C.disk.off, .int .i64 C.disk.count])) (hy : BoxAt W rb zeroC) (hb : Below w.heap.size w W) : Hav G w nb rb eb W C ⟨sa, sc, la, lc, wa, wq, ka, kc⟩ G :=
  ⟨h.below hG hb, hx, hy, fun k hk => by have := hG k hk; have := hb.size; exact ⟨.inl hk, by omega, by omega, by omega, by omega⟩, hb, hw, ⟨hx.lt, hy.lt, hl⟩, hn⟩
end
theorem refOpenAt8 (a : Option Addr) (c : Nat) (l : List UInt8) (id : Int) (p : Pg.Page) (k : Nat) (X : Int) (hr : Pg.openAtL l id = (p, k, X)) (w : World) (hb : BytesAt w (.slice a l.length c) l) :
    Calls Tryz.prog 81 #[.slice a l.length c, .int .i64 id] w fun e w' => (∃ a1 c1, e = .returned (.tuple #[.agg #[.int .i64 p.kind, .int .i64 p.id, .int .u64 (p.gen : Int), .slice a1 p.body.length c1], .int .i64 (k : Int), .int .i64 X]) ∧ Own w' w.heap.size (.slice a1 p.body.length c1) p.body) ∧ Below w.heap.size w w' := by
  have := refOpenAt_any a c l id w hb
  rw [hr] at this
  exact this
theorem GivesCS.done {G X : Nat → Prop} {w V W : World} {nb rb eb : Nat} {C : Ch.Cache} {s : Shp} {i k : Nat} (h : Hav G w nb rb eb V C s X) (hg : V.grownBy W (some rb)) : GivesCS G w C i k (.returned (.tuple #[refCV C s, .int .i64 (i : Int), .int .i64 (k : Int)])) W :=
  ⟨⟨s, rfl, (h.done hg).1⟩, (h.done hg).2⟩
theorem GivesCS.doneOf {G X : Nat → Prop} {w V V' W : World} {nb rb eb : Nat} {C D : Ch.Cache} {s s' : Shp} {i k : Nat} (h : Hav G w nb rb eb V C s X) (hr : RefC (More X V V') V' D s') (hb : Below V.heap.size V V') (hg : V'.grownBy W (some rb)) : GivesCS G w D i k (.returned (.tuple #[refCV D s', .int .i64 (i : Int), .int .i64 (k : Int)])) W :=
  ⟨⟨s', rfl, (h.doneOf hr hb hg).1⟩, (h.doneOf hr hb hg).2⟩
theorem GivesCK.done {G X : Nat → Prop} {w V W : World} {nb rb eb : Nat} {C : Ch.Cache} {s : Shp} {k : Nat} (h : Hav G w nb rb eb V C s X) (hg : V.grownBy W (some rb)) : GivesCK G w C k (.returned (.tuple #[refCV C s, .int .i64 (k : Int)])) W :=
  ⟨⟨s, rfl, (h.done hg).1⟩, (h.done hg).2⟩
theorem GivesCK.doneOf {G X : Nat → Prop} {w V V' W : World} {nb rb eb : Nat} {C D : Ch.Cache} {s s' : Shp} {k : Nat} (h : Hav G w nb rb eb V C s X) (hr : RefC (More X V V') V' D s') (hb : Below V.heap.size V V') (hg : V'.grownBy W (some rb)) : GivesCK G w D k (.returned (.tuple #[refCV D s', .int .i64 (k : Int)])) W :=
  ⟨⟨s', rfl, (h.doneOf hr hb hg).1⟩, (h.doneOf hr hb hg).2⟩

end Go.Proofs.YtflbioiildndoaaGreatDoor

