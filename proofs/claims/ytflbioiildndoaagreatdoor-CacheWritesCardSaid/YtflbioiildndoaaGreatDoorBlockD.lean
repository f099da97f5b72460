/- merged: DiskMem, Near, DiskStep, DiskNew -/
import Derived.Test.YtflbioiildndoaaGreatDoorQ3
import Derived.Test.YtflbioiildndoaaGreatDoorQ4
import Derived.Test.YtflbioiildndoaaGreatDoorQ2
/- disks in memory: the program's, whose blocks are apart from each other; the document's; what stays where blocks stay -/
namespace Go.Proofs.YtflbioiildndoaaGreatDoor
open Go.RowKit

/-- a value's block, if it has one, is of G -/
def InG (G : Nat → Prop) (v : Value) : Prop := ∀ k, v.ownBlock = some k → G k
theorem InG.mono {G G' : Nat → Prop} {v : Value} (h : InG G v) (hg : ∀ k, G k → G' k) : InG G' v := fun k hk => hg k (h k hk)
theorem cell_on {w w' : World} {a : Addr} {v : Value} (h : w.cell? a = some v) (hs : w'.heap[a.block]? = w.heap[a.block]?) : w'.cell? a = some v := by
  simp only [World.cell?, hs] at h ⊢; exact h
theorem frozen_on {w w' : World} {a : Addr} (hs : w'.heap[a.block]? = w.heap[a.block]?) : w'.frozen? a = w.frozen? a := by
  simp only [World.frozen?, hs]
theorem BoxAt.on {w w' : World} {r : Nat} {vs : List Value} (h : BoxAt w r vs) (hs : w'.heap[r]? = w.heap[r]?) : BoxAt w' r vs := by
  have hl : r < w'.heap.size := by
    obtain ⟨o, ho⟩ : ∃ o, w.heap[r]? = some o := ⟨_, Array.getElem?_eq_getElem h.1⟩
    rw [ho] at hs
    exact (Array.getElem?_eq_some_iff.1 hs).1
  refine ⟨hl, fun i v hv => ?_⟩
  obtain ⟨h1, h2⟩ := h.2 i v hv
  exact ⟨cell_on h1 hs, by rw [frozen_on hs]; exact h2⟩
theorem BytesAt.on {w w' : World} {v : Value} {l : List UInt8} (h : BytesAt w v l) (hs : ∀ k, v.ownBlock = some k → w'.heap[k]? = w.heap[k]?) : BytesAt w' v l := by
  obtain ⟨a, c, rfl, h1, h2, h3⟩ := h
  refine ⟨a, c, rfl, h1, h2, h3.imp id ?_⟩
  rintro ⟨b, o, rfl, hc⟩
  exact ⟨b, o, rfl, fun i x hx => cell_on (hc i x hx) (hs b rfl)⟩
theorem RowAt.on {α : Type} {E : Elem α} {w w' : World} {v : Value} {l : List α} (h : RowAt E w v l) (hs : ∀ k, v.ownBlock = some k → w'.heap[k]? = w.heap[k]?) : RowAt E w' v l := by
  obtain ⟨a, c, rfl, h1, h2, h3⟩ := h
  refine ⟨a, c, rfl, h1, h2, h3.imp id ?_⟩
  rintro ⟨b, o, rfl, hc⟩
  exact ⟨b, o, rfl, fun i x hx j u hu => cell_on (hc i x hx j u hu) (hs b rfl)⟩
theorem RowAt.ofNil {α : Type} {E : Elem α} {w w' : World} {v : Value} (h : RowAt E w v []) : RowAt E w' v [] := by
  obtain ⟨a, c, rfl, h1, h2, _⟩ := h
  exact ⟨a, c, rfl, h1, h2, .inl rfl⟩
/-- the block of a row that is not empty is there -/
theorem RowAt.held {α : Type} {E : Elem α} {w : World} {v : Value} {l : List α} (h : RowAt E w v l) (hE : ∀ x : α, 0 < (E.enc x).length) : l = [] ∨ ∀ k, v.ownBlock = some k → k < w.heap.size := by
  obtain ⟨a, c, rfl, h1, h2, h3⟩ := h
  rcases h3 with h3 | ⟨b, o, rfl, hc⟩
  · exact .inl h3
  · cases l with
    | nil => exact .inl rfl
    | cons x l =>
      refine .inr fun k hk => ?_
      simp only [Value.ownBlock, Option.some.injEq] at hk
      subst hk
      exact World.block_lt_of_cell? w _ (hc 0 x rfl 0 _ (List.getElem?_eq_getElem (hE x)))
theorem owns_on {w w' : World} {base size n : Nat} {e : TypeId} {v : Value} {xs : List Value} (h : w.ownsRow base e size v n xs) (hs : ∀ k, v.ownBlock = some k → w'.heap[k]? = w.heap[k]?) : w'.ownsRow base e size v n xs := by
  refine ⟨h.1, h.2.imp id ?_⟩
  rintro ⟨g, cap, cur, rfl, h2, h3, r⟩
  exact ⟨g, cap, cur, rfl, h2, by rw [hs g rfl]; exact h3, r⟩
theorem Own.on {w w' : World} {base : Nat} {v : Value} {l : List UInt8} (h : Own w base v l) (hs : ∀ k, v.ownBlock = some k → w'.heap[k]? = w.heap[k]?) : Own w' base v l := owns_on h hs
theorem OwnR.on {α : Type} {E : Elem α} {w w' : World} {base : Nat} {v : Value} {l : List α} (h : OwnR E w base v l) (hs : ∀ k, v.ownBlock = some k → w'.heap[k]? = w.heap[k]?) : OwnR E w' base v l := owns_on h hs

/-! ### rows of blocks, of writes, of bools -/
abbrev Sl3 := Option Addr × Nat × Nat
def Sl3.v (x : Sl3) : Value := .slice x.1 x.2.1 x.2.2
/-- a row of slices of bytes -/
abbrev eSl : Elem Sl3 := ⟨30, 53, 1, 24, .slice none 0 0, fun x => [.slice x.1 x.2.1 x.2.2]⟩
theorem infoSl : (Tryz.prog.info? 53).map (fun i => (i.zero, i.size, i.bytes)) = some (some (.slice none 0 0), 1, 24) := by kernel_rfl
theorem eSl_ok : eSl.Ok where
  len _ := rfl
  one x u hu := by simp at hu; subst hu; rfl
  und := Tryz.underlying30
  info := infoSl
  zs := rfl
/-- a row of blocks of a size, each in a block of memory of its own: the block, the capacity -/
abbrev eBk (s : Nat) : Elem (Nat × Nat) := ⟨30, 53, 1, 24, .slice none 0 0, fun x => [.slice (some ⟨x.1, 0, none⟩) s x.2]⟩
theorem eBk_ok (s : Nat) : (eBk s).Ok where
  len _ := rfl
  one x u hu := by simp at hu; subst hu; rfl
  und := Tryz.underlying30
  info := infoSl
  zs := rfl
/-- the program's writes: the place, the block, the capacity -/
abbrev eWk (s : Nat) : Elem (Int × Nat × Nat) := ⟨94, 102, 2, 32, .agg #[.int .i64 0, .slice none 0 0], fun x => [.int .i64 x.1, .slice (some ⟨x.2.1, 0, none⟩) s x.2.2]⟩
theorem infoWk : (Tryz.prog.info? 102).map (fun i => (i.zero, i.size, i.bytes)) = some (some (.agg #[.int .i64 0, .slice none 0 0]), 2, 32) := by kernel_rfl
theorem eWk_ok (s : Nat) : (eWk s).Ok where
  len _ := rfl
  one x u hu := by simp at hu; rcases hu with rfl | rfl <;> rfl
  und := Tryz.underlying94
  info := infoWk
  zs := rfl
/-- the document's writes -/
abbrev eWr : Elem (Int × Sl3) := ⟨31, 105, 2, 32, .agg #[.int .i64 0, .slice none 0 0], fun x => [.int .i64 x.1, .slice x.2.1 x.2.2.1 x.2.2.2]⟩
theorem infoWr : (Tryz.prog.info? 105).map (fun i => (i.zero, i.size, i.bytes)) = some (some (.agg #[.int .i64 0, .slice none 0 0]), 2, 32) := by kernel_rfl
theorem eWr_ok : eWr.Ok where
  len _ := rfl
  one x u hu := by simp at hu; rcases hu with rfl | rfl <;> rfl
  und := Tryz.underlying31
  info := infoWr
  zs := rfl
abbrev eBool : Elem Bool := ⟨32, 4, 1, 1, .bool false, fun x => [.bool x]⟩
theorem infoBool : (Tryz.prog.info? 4).map (fun i => (i.zero, i.size, i.bytes)) = some (some (.bool false), 1, 1) := by kernel_rfl
theorem eBool_ok : eBool.Ok where
  len _ := rfl
  one x u hu := by simp at hu; subst hu; rfl
  und := Tryz.underlying32
  info := infoBool
  zs := rfl

/-! ### the program's disk -/
/-- the cells of a disk -/
def cellsD (d : Bk.Disk) (lv wv kv : Value) : List Value := [.int .i64 (d.blocks : Int), .int .i64 (d.size : Int), lv, wv, .bool d.lit, .int .i64 d.after, .int .i64 d.torn, .int .i64 d.cut, kv, .bool d.off, .int .i64 d.count]
/-- the blocks of memory that a disk has -/
def blocksD (p : Nat) (lv wv kv : Value) (gs : List (Nat × Nat)) (hs : List (Int × Nat × Nat)) : List Nat :=
  p :: (lv.ownBlock.toList ++ (wv.ownBlock.toList ++ (kv.ownBlock.toList ++ (gs.map (·.1) ++ hs.map (·.2.1)))))
structure DiskP (F : Nat → Prop) (w : World) (p : Nat) (d : Bk.Disk) (lv wv kv : Value) (gs : List (Nat × Nat)) (hs : List (Int × Nat × Nat)) : Prop where
  box : BoxAt w p (cellsD d lv wv kv)
  last : OwnR (eBk d.size) w 0 lv gs
  wait : OwnR (eWk d.size) w 0 wv hs
  keep : OwnR eBool w 0 kv d.keep
  glen : gs.length = d.lasting.length
  geach : ∀ (i : Nat) g b, gs[i]? = some g → d.lasting[i]? = some b → Own w 0 (.slice (some ⟨g.1, 0, none⟩) d.size g.2) b
  hlen : hs.length = d.waiting.length
  heach : ∀ (i : Nat) h z, hs[i]? = some h → d.waiting[i]? = some z → h.1 = (z.1 : Int) ∧ Own w 0 (.slice (some ⟨h.2.1, 0, none⟩) d.size h.2.2) z.2
  nodup : (blocksD p lv wv kv gs hs).Nodup
  inF : ∀ k ∈ blocksD p lv wv kv gs hs, F k
/-- a disk of the program at a block: all its memory lies in F -/
def DiskAt (F : Nat → Prop) (w : World) (p : Nat) (d : Bk.Disk) : Prop := ∃ lv wv kv gs hs, DiskP F w p d lv wv kv gs hs
/-- what is ahead of a block of the memory is there -/
def Held (F : Nat → Prop) (w : World) : Prop := ∀ k, F k → k < w.heap.size
/-- all blocks outside F are as they were -/
structure Beside (F : Nat → Prop) (w w' : World) : Prop where
  os : w'.os = w.os
  tape : w'.tape = w.tape
  output : w'.output = w.output
  size : w.heap.size ≤ w'.heap.size
  block : ∀ k, k < w.heap.size → ¬ F k → w'.heap[k]? = w.heap[k]?
/-- F grew by new blocks alone -/
def Grows (F : Nat → Prop) (w : World) (F' : Nat → Prop) (w' : World) : Prop := ∀ k, F' k → (F k ∨ w.heap.size ≤ k) ∧ k < w'.heap.size
theorem DiskP.mono {F F' : Nat → Prop} {w : World} {p : Nat} {d : Bk.Disk} {lv wv kv : Value} {gs : List (Nat × Nat)} {hs : List (Int × Nat × Nat)} (h : DiskP F w p d lv wv kv gs hs) (hf : ∀ k, F k → F' k) : DiskP F' w p d lv wv kv gs hs :=
  { h with inF := fun k hk => hf k (h.inF k hk) }
theorem mem_gs {p : Nat} {lv wv kv : Value} {gs : List (Nat × Nat)} {hs : List (Int × Nat × Nat)} {i : Nat} {g : Nat × Nat} (h : gs[i]? = some g) : g.1 ∈ blocksD p lv wv kv gs hs := by
  have : g ∈ gs := List.mem_of_getElem? h
  unfold blocksD
  simp only [List.mem_cons, List.mem_append, List.mem_map]
  exact .inr (.inr (.inr (.inr (.inl ⟨g, this, rfl⟩))))
theorem mem_hs {p : Nat} {lv wv kv : Value} {gs : List (Nat × Nat)} {hs : List (Int × Nat × Nat)} {i : Nat} {g : Int × Nat × Nat} (h : hs[i]? = some g) : g.2.1 ∈ blocksD p lv wv kv gs hs := by
  have : g ∈ hs := List.mem_of_getElem? h
  unfold blocksD
  simp only [List.mem_cons, List.mem_append, List.mem_map]
  exact .inr (.inr (.inr (.inr (.inr ⟨g, this, rfl⟩))))
theorem mem_lv {p : Nat} {lv wv kv : Value} {gs : List (Nat × Nat)} {hs : List (Int × Nat × Nat)} {k : Nat} (h : lv.ownBlock = some k) : k ∈ blocksD p lv wv kv gs hs := by
  unfold blocksD; rw [h]; simp
theorem mem_wv {p : Nat} {lv wv kv : Value} {gs : List (Nat × Nat)} {hs : List (Int × Nat × Nat)} {k : Nat} (h : wv.ownBlock = some k) : k ∈ blocksD p lv wv kv gs hs := by
  unfold blocksD; rw [h]; simp
theorem mem_kv {p : Nat} {lv wv kv : Value} {gs : List (Nat × Nat)} {hs : List (Int × Nat × Nat)} {k : Nat} (h : kv.ownBlock = some k) : k ∈ blocksD p lv wv kv gs hs := by
  unfold blocksD; rw [h]; simp
theorem mem_p {p : Nat} {lv wv kv : Value} {gs : List (Nat × Nat)} {hs : List (Int × Nat × Nat)} : p ∈ blocksD p lv wv kv gs hs := by
  unfold blocksD; simp
/-- a disk stays where its blocks stay -/
theorem DiskP.on {F : Nat → Prop} {w w' : World} {p : Nat} {d : Bk.Disk} {lv wv kv : Value} {gs : List (Nat × Nat)} {hs : List (Int × Nat × Nat)} (h : DiskP F w p d lv wv kv gs hs) (hb : ∀ k ∈ blocksD p lv wv kv gs hs, w'.heap[k]? = w.heap[k]?) : DiskP F w' p d lv wv kv gs hs where
  box := h.box.on (hb p mem_p)
  last := h.last.on fun k hk => hb k (mem_lv hk)
  wait := h.wait.on fun k hk => hb k (mem_wv hk)
  keep := h.keep.on fun k hk => hb k (mem_kv hk)
  glen := h.glen
  geach i g b hg hl := (h.geach i g b hg hl).on fun k hk => by
    simp only [Value.ownBlock, Option.some.injEq] at hk
    subst hk; exact hb _ (mem_gs hg)
  hlen := h.hlen
  heach i g z hg hl := ⟨(h.heach i g z hg hl).1, (h.heach i g z hg hl).2.on fun k hk => by
    simp only [Value.ownBlock, Option.some.injEq] at hk
    subst hk; exact hb _ (mem_hs hg)⟩
  nodup := h.nodup
  inF := h.inF
theorem DiskAt.on {F : Nat → Prop} {w w' : World} {p : Nat} {d : Bk.Disk} (h : DiskAt F w p d) (hb : ∀ k, F k → w'.heap[k]? = w.heap[k]?) : DiskAt F w' p d := by
  obtain ⟨lv, wv, kv, gs, hs, h⟩ := h
  exact ⟨lv, wv, kv, gs, hs, h.on fun k hk => hb k (h.inF k hk)⟩
theorem DiskAt.below {F : Nat → Prop} {w w' : World} {p : Nat} {d : Bk.Disk} (h : DiskAt F w p d) (hF : Held F w) (hb : Below w.heap.size w w') : DiskAt F w' p d := h.on fun k hk => hb.block k (hF k hk)
theorem Beside.refl (F : Nat → Prop) (w : World) : Beside F w w := ⟨rfl, rfl, rfl, Nat.le_refl _, fun _ _ _ => rfl⟩
theorem Beside.of_below {F : Nat → Prop} {w w' : World} (h : Below w.heap.size w w') : Beside F w w' := ⟨h.os, h.tape, h.output, h.size, fun k hk _ => h.block k hk⟩
theorem Beside.trans {F F1 : Nat → Prop} {w w1 w2 : World} (h : Beside F w w1) (hg : Grows F w F1 w1) (k : Beside F1 w1 w2) : Beside F w w2 :=
  ⟨k.os.trans h.os, k.tape.trans h.tape, k.output.trans h.output, Nat.le_trans h.size k.size, fun i hi hn => by
    rw [k.block i (Nat.lt_of_lt_of_le hi h.size) (fun hf => by
      rcases (hg i hf).1 with h1 | h1
      · exact hn h1
      · omega), h.block i hi hn]⟩
theorem Beside.same {F : Nat → Prop} {w w1 w2 : World} (h : Beside F w w1) (k : Beside F w1 w2) : Beside F w w2 :=
  ⟨k.os.trans h.os, k.tape.trans h.tape, k.output.trans h.output, Nat.le_trans h.size k.size, fun i hi hn => by
    rw [k.block i (Nat.lt_of_lt_of_le hi h.size) hn, h.block i hi hn]⟩
theorem Grows.refl {F : Nat → Prop} {w w' : World} (h : Held F w) (hs : w.heap.size ≤ w'.heap.size) : Grows F w F w' := fun k hk => ⟨.inl hk, Nat.lt_of_lt_of_le (h k hk) hs⟩
theorem Grows.trans {F F1 F2 : Nat → Prop} {w w1 w2 : World} (h : Grows F w F1 w1) (hs : w.heap.size ≤ w1.heap.size) (k : Grows F1 w1 F2 w2) : Grows F w F2 w2 := fun i hi => by
  obtain ⟨h1, h2⟩ := k i hi
  refine ⟨?_, h2⟩
  rcases h1 with h1 | h1
  · exact (h i h1).1
  · exact .inr (by omega)
theorem Grows.held {F F1 : Nat → Prop} {w w1 : World} (h : Grows F w F1 w1) : Held F1 w1 := fun k hk => (h k hk).2
/-- what was outside F is outside what F became -/
theorem Grows.out {F F1 : Nat → Prop} {w w1 : World} (h : Grows F w F1 w1) {k : Nat} (hk : k < w.heap.size) (hn : ¬ F k) : ¬ F1 k := fun hf => by
  rcases (h k hf).1 with h1 | h1
  · exact hn h1
  · omega
theorem Beside.below {F : Nat → Prop} {B : Nat} {w w' : World} (h : Beside F w w') (hB : ∀ k, F k → B ≤ k) (hs : B ≤ w.heap.size) : Below B w w' :=
  ⟨h.os, h.tape, h.output, h.size, fun k hk => h.block k (by omega) (fun hf => by have := hB k hf; omega)⟩

/-! ### the document's disk -/
structure DiskR (G : Nat → Prop) (w : World) (d : Bk.Disk) (lv wv kv : Value) (xs : List Sl3) (ys : List (Int × Sl3)) : Prop where
  last : RowAt eSl w lv xs
  wait : RowAt eWr w wv ys
  keep : RowAt eBool w kv d.keep
  lastG : InG G lv
  waitG : InG G wv
  keepG : d.keep = [] ∨ InG G kv
  xlen : xs.length = d.lasting.length
  xeach : ∀ (i : Nat) x b, xs[i]? = some x → d.lasting[i]? = some b → BytesAt w (.slice x.1 x.2.1 x.2.2) b ∧ InG G (.slice x.1 x.2.1 x.2.2)
  ylen : ys.length = d.waiting.length
  yeach : ∀ (i : Nat) y z, ys[i]? = some y → d.waiting[i]? = some z → y.1 = (z.1 : Int) ∧ BytesAt w (.slice y.2.1 y.2.2.1 y.2.2.2) z.2 ∧ InG G (.slice y.2.1 y.2.2.1 y.2.2.2)
def refD (d : Bk.Disk) (lv wv kv : Value) : Value := .agg #[.int .i64 (d.blocks : Int), .int .i64 (d.size : Int), lv, wv, .bool d.lit, .int .i64 d.after, .int .i64 d.torn, .int .i64 d.cut, kv, .bool d.off, .int .i64 d.count]
def RefAt (G : Nat → Prop) (w : World) (v : Value) (d : Bk.Disk) : Prop := ∃ lv wv kv xs ys, v = refD d lv wv kv ∧ DiskR G w d lv wv kv xs ys
theorem DiskR.on {G : Nat → Prop} {w w' : World} {d : Bk.Disk} {lv wv kv : Value} {xs : List Sl3} {ys : List (Int × Sl3)} (h : DiskR G w d lv wv kv xs ys) (hb : ∀ k, G k → w'.heap[k]? = w.heap[k]?) : DiskR G w' d lv wv kv xs ys where
  last := h.last.on fun k hk => hb k (h.lastG k hk)
  wait := h.wait.on fun k hk => hb k (h.waitG k hk)
  keep := h.keepG.elim (fun e => by rw [e]; have := h.keep; rw [e] at this; exact this.ofNil) fun hG => h.keep.on fun k hk => hb k (hG k hk)
  lastG := h.lastG
  waitG := h.waitG
  keepG := h.keepG
  xlen := h.xlen
  xeach i x b hx hl := ⟨(h.xeach i x b hx hl).1.on fun k hk => hb k ((h.xeach i x b hx hl).2 k hk), (h.xeach i x b hx hl).2⟩
  ylen := h.ylen
  yeach i x b hx hl := ⟨(h.yeach i x b hx hl).1, (h.yeach i x b hx hl).2.1.on fun k hk => hb k ((h.yeach i x b hx hl).2.2 k hk), (h.yeach i x b hx hl).2.2⟩
theorem DiskR.mono {G G' : Nat → Prop} {w : World} {d : Bk.Disk} {lv wv kv : Value} {xs : List Sl3} {ys : List (Int × Sl3)} (h : DiskR G w d lv wv kv xs ys) (hg : ∀ k, G k → G' k) : DiskR G' w d lv wv kv xs ys where
  last := h.last
  wait := h.wait
  keep := h.keep
  lastG := h.lastG.mono hg
  waitG := h.waitG.mono hg
  keepG := h.keepG.imp id fun h => h.mono hg
  xlen := h.xlen
  xeach i x b hx hl := ⟨(h.xeach i x b hx hl).1, (h.xeach i x b hx hl).2.mono hg⟩
  ylen := h.ylen
  yeach i x b hx hl := ⟨(h.yeach i x b hx hl).1, (h.yeach i x b hx hl).2.1, (h.yeach i x b hx hl).2.2.mono hg⟩
theorem RefAt.on {G : Nat → Prop} {w w' : World} {v : Value} {d : Bk.Disk} (h : RefAt G w v d) (hb : ∀ k, G k → w'.heap[k]? = w.heap[k]?) : RefAt G w' v d := by
  obtain ⟨lv, wv, kv, xs, ys, rfl, h⟩ := h
  exact ⟨lv, wv, kv, xs, ys, rfl, h.on hb⟩
theorem RefAt.mono {G G' : Nat → Prop} {w : World} {v : Value} {d : Bk.Disk} (h : RefAt G w v d) (hg : ∀ k, G k → G' k) : RefAt G' w v d := by
  obtain ⟨lv, wv, kv, xs, ys, rfl, h⟩ := h
  exact ⟨lv, wv, kv, xs, ys, rfl, h.mono hg⟩
theorem RefAt.below {G : Nat → Prop} {w w' : World} {v : Value} {d : Bk.Disk} (h : RefAt G w v d) (hG : Held G w) (hb : Below w.heap.size w w') : RefAt G w' v d := h.on fun k hk => hb.block k (hG k hk)
/-- what is there, and what is new -/
def More (G : Nat → Prop) (w w' : World) (k : Nat) : Prop := G k ∨ (w.heap.size ≤ k ∧ k < w'.heap.size)
theorem More.held {G : Nat → Prop} {w w' : World} (h : Held G w) (hs : w.heap.size ≤ w'.heap.size) : Held (More G w w') w' := fun k hk => by
  rcases hk with hk | hk
  · exact Nat.lt_of_lt_of_le (h k hk) hs
  · exact hk.2
end Go.Proofs.YtflbioiildndoaaGreatDoor

/- append to a row of the call's own, once more: the row behind it is where it was, or new -/
namespace Go.Proofs.YtflbioiildndoaaGreatDoor
open Go.RowKit

section
variable {P : Program} (w : World)
theorem run_append_near (base : Nat) (t tx ty e : TypeId) (i : TypeInfo) (z : Value) (size bytes : Nat) (ht : P.underlying t = some (.slice e)) (hi : P.info? e = some i) (hz : i.zero = some z)
    (hsize : i.size = size) (hby : i.bytes = bytes) (hzs : z.cells.size = size)
    (v : Value) (n : Nat) (xs : List Value) (hown : w.ownsRow base e size v n xs) (x : Value) (m : Nat) (news : List Value) (hs : Src P size tx x m news w)
    (h63 : n + m ≤ maxLen) (hbytes : (n + m) * bytes ≤ 140737488355328) (hbase : base ≤ w.heap.size) :
    ∃ v' w', (Builtin.append_ #[t, tx] ty #[v, x]).run P w = .ok v' w' ∧ w'.ownsRow base e size v' (n + m) (xs ++ news) ∧ w.grownBy w' v.ownBlock ∧
      (v' = .slice none 0 0 ↔ v = .slice none 0 0 ∧ m = 0) ∧ (v'.ownBlock = v.ownBlock ∨ ∀ k, v'.ownBlock = some k → w.heap.size ≤ k) := by
  subst hsize
  subst hby
  have hsmall : n + m ≤ 9223372036854775807 := by simp only [maxLen] at h63; omega
  have hl := hs.newsLen
  have hlen : (xs ++ news).length = (n + m) * i.size := by rw [List.length_append, hown.1, hl, Nat.add_mul]
  have grown : ∀ (old : Nat), old < n + m → ∀ (row : Option Nat),
      (w.drew.alloc (.cells ((xs ++ news).toArray ++ Builtin.zeroCells z.cells (grownCap w (n + m) old e - (n + m))) e)).ownsRow base e i.size
        (.slice (some ⟨w.heap.size, 0, none⟩) (n + m) (grownCap w (n + m) old e)) (n + m) (xs ++ news) ∧
      w.grownBy (w.drew.alloc (.cells ((xs ++ news).toArray ++ Builtin.zeroCells z.cells (grownCap w (n + m) old e - (n + m))) e)) row := by
    intro old ho row
    have hge := grownCap_ge w (n + m) old e
    have hcm : grownCap w (n + m) old e ≤ maxLen := grownCap_le_maxLen w (n + m) old e h63
    refine ⟨⟨hlen, .inr ⟨w.heap.size, _, _, rfl, hbase, heap_alloc_new w.drew _, hge, hcm, ?_, ?_⟩⟩, ⟨rfl, rfl, rfl, by simp, fun k hk _ => Go.RowKit.Below.heap_alloc w.drew _ k hk⟩⟩
    · simp only [Array.size_append, List.size_toArray, size_zeroCells, hzs, hlen, ← Nat.add_mul]
      congr 1
      omega
    · simp only [Array.toList_append]
      rw [← hlen]
      exact List.take_left
  rcases hown.2 with ⟨rfl, rfl⟩ | ⟨g, cap, cur, rfl, hbg, hg, hnc, hcm, hcs, htake⟩
  · have hx : xs = [] := List.eq_nil_of_length_eq_zero (by simpa using hown.1)
    subst hx
    by_cases hm : m = 0
    · subst hm
      have hn : news = [] := List.eq_nil_of_length_eq_zero (by simpa using hl)
      subst hn
      refine ⟨.slice none 0 0, w, ?_, World.ownsRow_nil w base e i.size, ⟨rfl, rfl, rfl, Nat.le_refl _, fun _ _ _ => rfl⟩, by simp, .inl rfl⟩
      have hcel := hs.cells
      rcases hs.kind with ⟨e', hk⟩ | hk <;> simp [Builtin.append_, run_underlying ht, run_underlying hk, sizeOf, typeInfo, hi, hs.len, hcel]
    · have hr := run_append_grow_src (P := P) w t tx ty e i z ht hi hz none 0 0 [] (run_firstCells_none w.drew i.size 0 0 0) x m news hs (by omega) (by omega) (growslice_fits (by omega) hbytes)
      have hgr := grown 0 (by omega) (Value.ownBlock (.slice none 0 0))
      simp only [Nat.zero_add, List.nil_append] at hgr ⊢
      exact ⟨_, _, by simpa using hr, hgr.1, hgr.2, by simp [hm], .inr fun k hk => by simp [Value.ownBlock] at hk; omega⟩
  · by_cases hroom : n + m ≤ cap
    · have hfit : n * i.size + news.length ≤ cur.size := by rw [hl, hcs, ← Nat.add_mul]; exact Nat.mul_le_mul_right _ hroom
      have hr := run_append_row_src (P := P) w t tx ty e i ht hi g n cap cur hg x m news hs hroom hfit
      refine ⟨_, _, hr, ⟨hlen, .inr ⟨g, cap, _, rfl, hbg, setRow_heap w g cur _ e _ hg, hroom, hcm, ?_, ?_⟩⟩, ⟨rfl, rfl, rfl, by simp, fun k _ hk => setRow_other w g k _ (fun e => hk (by simp [Value.ownBlock, e]))⟩, by simp, .inl rfl⟩
      · simp only [List.size_toArray, List.length_append, List.length_take, List.length_drop, Array.length_toList]
        omega
      · rw [htake, ← hlen]
        exact List.take_left
    · have holds : ∀ j u, xs[j]? = some u → w.cell? ((⟨g, 0, none⟩ : Addr).add j) = some u := hown.cells (g := g) rfl
      have hr := run_append_grow_src (P := P) w t tx ty e i z ht hi hz (some ⟨g, 0, none⟩) n cap xs (run_firstCells_some w.drew i.size n ⟨g, 0, none⟩ n cap xs hown.1 (by simpa using holds)) x m news hs (by omega) (by omega) (growslice_fits (by omega) hbytes)
      have hgr := grown cap (by omega) (Value.ownBlock (.slice (some ⟨g, 0, none⟩) n cap))
      exact ⟨_, _, hr, hgr.1, hgr.2, by simp, .inr fun k hk => by simp [Value.ownBlock] at hk; omega⟩

end
section
variable {α : Type}
theorem wpList_append_near {ops : Array Oper} {rest : List Oper} {o : Oper} {a : Act} {Q : Exit → Act → World → Prop} {w : World} (E : Elem α) (hE : E.Ok) (hgd : o.guard = none) (s x : Operand)
    (ho : o.op = .call { callee := .builtin .append, args := #[s, x], argTypes := #[E.sl, E.sl] }) (base : Nat)
    (v : Value) (l : List α) (hs : a.eval s = v) (hown : OwnR E w base v l)
    (X : Value) (m : List α) (hx : a.eval x = X) (hsrc : RowAt E w X m)
    (hb : (l.length + m.length) * E.bytes ≤ 140737488355328) (hb2 : l.length + m.length ≤ 140737488355328) (hbase : base ≤ w.heap.size)
    (h : ∀ v' w', OwnR E w' base v' (l ++ m) → w.grownBy w' v.ownBlock → (v'.ownBlock = v.ownBlock ∨ ∀ k, v'.ownBlock = some k → w.heap.size ≤ k) → wpList Tryz.prog ops Q rest (a.put o.dst v') w') : wpList Tryz.prog ops Q (o :: rest) a w := by
  obtain ⟨i, hi, hz, hs1, hb1⟩ := info_parts hE.info
  refine wpList_plain hgd fun K hK => ?_
  obtain ⟨v', w', hrun, h2, h3, h4, h5⟩ := run_append_near (P := Tryz.prog) w base E.sl E.sl o.type E.el i _ E.size E.bytes hE.und hi hz hs1 hb1 hE.zs v l.length (E.all l) hown X m.length (E.all m) (hsrc.src hE) (by unfold maxLen; omega) hb hbase
  unfold Oper.wp
  simp [execOp, ho, resolve, invoke, builtin, hs, hx, hrun, Result.andThen]
  refine hK _ _ (h v' w' ?_ h3 h5)
  unfold OwnR
  rw [Elem.all_append, List.length_append]
  exact h2
theorem step_append_near {o : Oper} {a : Act} {w : World} {K : Act → World → Prop} {Q : Exit → Act → World → Prop} (E : Elem α) (hE : E.Ok) (s x : Operand)
    (ho : o.op = .call { callee := .builtin .append, args := #[s, x], argTypes := #[E.sl, E.sl] }) (base : Nat)
    (v : Value) (l : List α) (hs : a.eval s = v) (hown : OwnR E w base v l)
    (m : List α) (hsrc : RowAt E w (a.eval x) m)
    (hb : (l.length + m.length) * E.bytes ≤ 140737488355328) (hb2 : l.length + m.length ≤ 140737488355328) (hbase : base ≤ w.heap.size)
    (h : ∀ v' w', OwnR E w' base v' (l ++ m) → w.grownBy w' v.ownBlock → (v'.ownBlock = v.ownBlock ∨ ∀ k, v'.ownBlock = some k → w.heap.size ≤ k) → K (a.put o.dst v') w') :
    o.wp Tryz.prog a w K Q := by
  obtain ⟨i, hi, hz, hs1, hb1⟩ := info_parts hE.info
  obtain ⟨v', w', hrun, h2, h3, h4, h5⟩ := run_append_near (P := Tryz.prog) w base E.sl E.sl o.type E.el i _ E.size E.bytes hE.und hi hz hs1 hb1 hE.zs v l.length (E.all l) hown (a.eval x) m.length (E.all m) (hsrc.src hE) (by unfold maxLen; omega) hb hbase
  unfold Oper.wp
  simp [execOp, ho, resolve, invoke, builtin, hs, hrun, Result.andThen]
  refine h v' w' ?_ h3 h5
  unfold OwnR
  rw [Elem.all_append, List.length_append]
  exact h2
end
end Go.Proofs.YtflbioiildndoaaGreatDoor

/- disks in memory: what a store, a copy, an append makes of the program's disk -/
namespace Go.Proofs.YtflbioiildndoaaGreatDoor
open Go.RowKit

theorem Beside.of_grown {F : Nat → Prop} {w w' : World} {p : Nat} (h : w.grownBy w' (some p)) (hp : F p) : Beside F w w' :=
  ⟨h.os, h.tape, h.output, h.size, fun k hk hn => h.block k hk (fun e => hn (by cases e; exact hp))⟩
theorem Beside.of_grownO {F : Nat → Prop} {w w' : World} {o : Option Nat} (h : w.grownBy w' o) (hp : ∀ k, o = some k → F k) : Beside F w w' :=
  ⟨h.os, h.tape, h.output, h.size, fun k hk hn => h.block k hk (fun e => hn (hp k e.symm))⟩
theorem Beside.step {F : Nat → Prop} {w w1 w2 : World} (h : Beside F w w1) (k : Beside F w1 w2) : Beside F w w2 := h.same k
theorem Beside.mono {F F' : Nat → Prop} {w w' : World} (h : Beside F w w') (hf : ∀ k, F k → F' k) : Beside F' w w' :=
  ⟨h.os, h.tape, h.output, h.size, fun k hk hn => h.block k hk (fun e => hn (hf k e))⟩
theorem grown_drew {w w' : World} {o : Option Nat} (h : w.grownBy w' o) : w.grownBy w'.drew o := ⟨h.os, h.tape, h.output, h.size, h.block⟩

section
variable {F : Nat → Prop} {w w' : World} {p : Nat} {d d' : Bk.Disk} {lv wv kv : Value} {gs : List (Nat × Nat)} {hs : List (Int × Nat × Nat)}

theorem DiskP.lt (h : DiskP F w p d lv wv kv gs hs) : ∀ k ∈ blocksD p lv wv kv gs hs, k < w.heap.size := by
  intro k hk
  unfold blocksD at hk
  simp only [List.mem_cons, List.mem_append, Option.mem_toList, List.mem_map] at hk
  rcases hk with rfl | hk | hk | hk | ⟨g, hg, rfl⟩ | ⟨g, hg, rfl⟩
  · exact h.box.lt
  · exact (h.last.lt k hk).2
  · exact (h.wait.lt k hk).2
  · exact (h.keep.lt k hk).2
  · obtain ⟨i, hi, hgi⟩ := List.mem_iff_getElem.1 hg
    have e1 : gs[i]? = some g := by rw [List.getElem?_eq_getElem hi, hgi]
    obtain ⟨b, hb⟩ := getElem?_some_of_lt (l := d.lasting) (k := i) (by rw [← h.glen]; exact hi)
    exact ((h.geach i g b e1 hb).lt g.1 rfl).2
  · obtain ⟨i, hi, hgi⟩ := List.mem_iff_getElem.1 hg
    have e1 : hs[i]? = some g := by rw [List.getElem?_eq_getElem hi, hgi]
    obtain ⟨b, hb⟩ := getElem?_some_of_lt (l := d.waiting) (k := i) (by rw [← h.hlen]; exact hi)
    exact ((h.heach i g b e1 hb).2.lt g.2.1 rfl).2
/-- the other blocks than the box -/
theorem DiskP.rest (h : DiskP F w p d lv wv kv gs hs) : ∀ k ∈ blocksD p lv wv kv gs hs, k = p ∨ (k ≠ p ∧ k ∈ lv.ownBlock.toList ++ (wv.ownBlock.toList ++ (kv.ownBlock.toList ++ (gs.map (·.1) ++ hs.map (·.2.1))))) := by
  intro k hk
  have hn := h.nodup
  unfold blocksD at hk hn
  rcases List.mem_cons.1 hk with e | e
  · exact .inl e
  · exact .inr ⟨fun e2 => (List.nodup_cons.1 hn).1 (e2 ▸ e), e⟩
theorem mem_rest_lv {k : Nat} (h : lv.ownBlock = some k) : k ∈ lv.ownBlock.toList ++ (wv.ownBlock.toList ++ (kv.ownBlock.toList ++ (gs.map (·.1) ++ hs.map (·.2.1)))) := by rw [h]; simp
theorem mem_rest_wv {k : Nat} (h : wv.ownBlock = some k) : k ∈ lv.ownBlock.toList ++ (wv.ownBlock.toList ++ (kv.ownBlock.toList ++ (gs.map (·.1) ++ hs.map (·.2.1)))) := by rw [h]; simp
theorem mem_rest_kv {k : Nat} (h : kv.ownBlock = some k) : k ∈ lv.ownBlock.toList ++ (wv.ownBlock.toList ++ (kv.ownBlock.toList ++ (gs.map (·.1) ++ hs.map (·.2.1)))) := by rw [h]; simp
theorem mem_rest_gs {i : Nat} {g : Nat × Nat} (h : gs[i]? = some g) : g.1 ∈ lv.ownBlock.toList ++ (wv.ownBlock.toList ++ (kv.ownBlock.toList ++ (gs.map (·.1) ++ hs.map (·.2.1)))) := by
  have : g.1 ∈ gs.map (·.1) := List.mem_map_of_mem (List.mem_of_getElem? h)
  exact List.mem_append_right _ (List.mem_append_right _ (List.mem_append_right _ (List.mem_append_left _ this)))
theorem mem_rest_hs {i : Nat} {g : Int × Nat × Nat} (h : hs[i]? = some g) : g.2.1 ∈ lv.ownBlock.toList ++ (wv.ownBlock.toList ++ (kv.ownBlock.toList ++ (gs.map (·.1) ++ hs.map (·.2.1)))) := by
  simp only [List.mem_append, List.mem_map]
  exact .inr (.inr (.inr (.inr ⟨g, List.mem_of_getElem? h, rfl⟩)))
theorem DiskP.ne_p (h : DiskP F w p d lv wv kv gs hs) {k : Nat} (hk : k ∈ lv.ownBlock.toList ++ (wv.ownBlock.toList ++ (kv.ownBlock.toList ++ (gs.map (·.1) ++ hs.map (·.2.1))))) : k ≠ p := by
  have hn := h.nodup
  unfold blocksD at hn
  exact fun e => (List.nodup_cons.1 hn).1 (e ▸ hk)
theorem nodup_inj {l : List Nat} (h : l.Nodup) {i j : Nat} {x : Nat} (h1 : l[i]? = some x) (h2 : l[j]? = some x) : i = j := by
  induction l generalizing i j with
  | nil => cases h1
  | cons y l ih =>
    have n := List.nodup_cons.1 h
    cases i with
    | zero =>
      cases j with
      | zero => rfl
      | succ j =>
        simp only [List.getElem?_cons_zero, Option.some.injEq, List.getElem?_cons_succ] at h1 h2
        subst h1
        exact absurd (List.mem_of_getElem? h2) n.1
    | succ i =>
      cases j with
      | zero =>
        simp only [List.getElem?_cons_zero, Option.some.injEq, List.getElem?_cons_succ] at h1 h2
        subst h2
        exact absurd (List.mem_of_getElem? h1) n.1
      | succ j =>
        simp only [List.getElem?_cons_succ] at h1 h2
        rw [ih n.2 h1 h2]
/-- the rows stay where the box alone is stored into -/
theorem DiskP.rebox (h : DiskP F w p d lv wv kv gs hs) (hg : w.grownBy w' (some p)) (hbox : BoxAt w' p (cellsD d' lv wv kv)) (e1 : d'.size = d.size) (e2 : d'.lasting = d.lasting) (e3 : d'.waiting = d.waiting) (e4 : d'.keep = d.keep) : DiskP F w' p d' lv wv kv gs hs := by
  have on : ∀ k ∈ lv.ownBlock.toList ++ (wv.ownBlock.toList ++ (kv.ownBlock.toList ++ (gs.map (·.1) ++ hs.map (·.2.1)))), w'.heap[k]? = w.heap[k]? := fun k hk =>
    hg.block k (h.lt k (by unfold blocksD; exact List.mem_cons_of_mem _ hk)) (by simpa using h.ne_p hk)
  refine ⟨hbox, ?_, ?_, ?_, by rw [e2]; exact h.glen, ?_, by rw [e3]; exact h.hlen, ?_, h.nodup, h.inF⟩
  · rw [e1]; exact h.last.on fun k hk => on k (mem_rest_lv hk)
  · rw [e1]; exact h.wait.on fun k hk => on k (mem_rest_wv hk)
  · rw [e4]; exact h.keep.on fun k hk => on k (mem_rest_kv hk)
  · intro i g b hgi hl
    rw [e2] at hl
    rw [e1]
    exact (h.geach i g b hgi hl).on fun k hk => by
      simp only [Value.ownBlock, Option.some.injEq] at hk
      subst hk; exact on _ (mem_rest_gs hgi)
  · intro i g z hgi hl
    rw [e3] at hl
    rw [e1]
    exact ⟨(h.heach i g z hgi hl).1, (h.heach i g z hgi hl).2.on fun k hk => by
      simp only [Value.ownBlock, Option.some.injEq] at hk
      subst hk; exact on _ (mem_rest_hs hgi)⟩
/-- what waits is struck -/
theorem DiskP.noWait (h : DiskP F w p d lv wv kv gs hs) (hg : w.grownBy w' (some p)) (hbox : BoxAt w' p (cellsD d' lv (.slice none 0 0) kv)) (e1 : d'.size = d.size) (e2 : d'.lasting = d.lasting) (e3 : d'.waiting = []) (e4 : d'.keep = d.keep) : DiskP F w' p d' lv (.slice none 0 0) kv gs [] := by
  have on : ∀ k ∈ lv.ownBlock.toList ++ (wv.ownBlock.toList ++ (kv.ownBlock.toList ++ (gs.map (·.1) ++ hs.map (·.2.1)))), w'.heap[k]? = w.heap[k]? := fun k hk =>
    hg.block k (h.lt k (by unfold blocksD; exact List.mem_cons_of_mem _ hk)) (by simpa using h.ne_p hk)
  have sub : (blocksD p lv (.slice none 0 0) kv gs []).Sublist (blocksD p lv wv kv gs hs) := by
    unfold blocksD
    refine List.Sublist.cons_cons _ (List.Sublist.append (List.Sublist.refl _) ?_)
    refine List.Sublist.append (by simp [Value.ownBlock]) (List.Sublist.append (List.Sublist.refl _) (List.Sublist.append (List.Sublist.refl _) (by simp)))
  refine ⟨hbox, ?_, OwnR.nil _ _ _, ?_, by rw [e2]; exact h.glen, ?_, by rw [e3]; rfl, fun i g z hgi _ => (by cases hgi), h.nodup.sublist sub, fun k hk => h.inF k (sub.subset hk)⟩
  · rw [e1]; exact h.last.on fun k hk => on k (mem_rest_lv hk)
  · rw [e4]; exact h.keep.on fun k hk => on k (mem_rest_kv hk)
  · intro i g b hgi hl
    rw [e2] at hl
    rw [e1]
    exact (h.geach i g b hgi hl).on fun k hk => by
      simp only [Value.ownBlock, Option.some.injEq] at hk
      subst hk; exact on _ (mem_rest_gs hgi)
/-- another row of bools is kept, new or none -/
theorem DiskP.newKeep (h : DiskP F w p d lv wv kv gs hs) {kv' : Value} (hg : w.grownBy w' (some p)) (hbox : BoxAt w' p (cellsD d' lv wv kv')) (e1 : d'.size = d.size) (e2 : d'.lasting = d.lasting) (e3 : d'.waiting = d.waiting) (hk : OwnR eBool w' 0 kv' d'.keep) (hnew : ∀ k, kv'.ownBlock = some k → w.heap.size ≤ k ∧ F k) : DiskP F w' p d' lv wv kv' gs hs := by
  have on : ∀ k ∈ lv.ownBlock.toList ++ (wv.ownBlock.toList ++ (kv.ownBlock.toList ++ (gs.map (·.1) ++ hs.map (·.2.1)))), w'.heap[k]? = w.heap[k]? := fun k hk =>
    hg.block k (h.lt k (by unfold blocksD; exact List.mem_cons_of_mem _ hk)) (by simpa using h.ne_p hk)
  have hn := h.nodup
  have hlt := h.lt
  have hF := h.inF
  have sub : (p :: (lv.ownBlock.toList ++ (wv.ownBlock.toList ++ ([] ++ (gs.map (·.1) ++ hs.map (·.2.1)))))).Sublist (blocksD p lv wv kv gs hs) := by
    unfold blocksD
    refine List.Sublist.cons_cons _ (List.Sublist.append (List.Sublist.refl _) (List.Sublist.append (List.Sublist.refl _) (List.Sublist.append (by simp) (List.Sublist.refl _))))
  have hn2 := hn.sublist sub
  refine ⟨hbox, ?_, ?_, hk, by rw [e2]; exact h.glen, ?_, by rw [e3]; exact h.hlen, ?_, ?_, ?_⟩
  · rw [e1]; exact h.last.on fun k hk => on k (mem_rest_lv hk)
  · rw [e1]; exact h.wait.on fun k hk => on k (mem_rest_wv hk)
  · intro i g b hgi hl
    rw [e2] at hl
    rw [e1]
    exact (h.geach i g b hgi hl).on fun k hk => by
      simp only [Value.ownBlock, Option.some.injEq] at hk
      subst hk; exact on _ (mem_rest_gs hgi)
  · intro i g z hgi hl
    rw [e3] at hl
    rw [e1]
    exact ⟨(h.heach i g z hgi hl).1, (h.heach i g z hgi hl).2.on fun k hk => by
      simp only [Value.ownBlock, Option.some.injEq] at hk
      subst hk; exact on _ (mem_rest_hs hgi)⟩
  · cases hkv : kv'.ownBlock with
    | none => unfold blocksD; rw [hkv]; exact hn2
    | some k =>
      have hk2 := (hnew k hkv).1
      have perm : (blocksD p lv wv kv' gs hs).Perm (k :: (p :: (lv.ownBlock.toList ++ (wv.ownBlock.toList ++ ([] ++ (gs.map (·.1) ++ hs.map (·.2.1))))))) := by
        unfold blocksD
        rw [hkv]
        simp only [Option.toList_some, List.nil_append, List.singleton_append]
        refine (List.Perm.cons _ ?_).trans (List.Perm.swap _ _ _)
        refine (List.Perm.append_left _ List.perm_middle).trans List.perm_middle
      refine perm.nodup_iff.2 (List.nodup_cons.2 ⟨fun hm => ?_, hn2⟩)
      have := hlt k (sub.subset hm)
      omega
  · intro k hk
    unfold blocksD at hk
    simp only [List.mem_cons, List.mem_append, Option.mem_toList] at hk
    rcases hk with rfl | hk | hk | hk | hk | hk
    · exact hF _ mem_p
    · exact hF _ (mem_lv hk)
    · exact hF _ (mem_wv hk)
    · exact (hnew k hk).2
    · exact hF k (by unfold blocksD; simp only [List.mem_cons, List.mem_append]; exact .inr (.inr (.inr (.inr (.inl hk)))))
    · exact hF k (by unfold blocksD; simp only [List.mem_cons, List.mem_append]; exact .inr (.inr (.inr (.inr (.inr hk)))))
/-- other bytes in a lasting block -/
theorem DiskP.setLast (h : DiskP F w p d lv wv kv gs hs) {i : Nat} {g : Nat × Nat} {b : Bk.Blk} (hgi : gs[i]? = some g) (hg : w.grownBy w' (some g.1)) (hb : Own w' 0 (.slice (some ⟨g.1, 0, none⟩) d.size g.2) b) : DiskP F w' p { d with lasting := d.lasting.set i b } lv wv kv gs hs := by
  have hn := h.nodup
  have hlt := h.lt
  have hi : i < gs.length := (List.getElem?_eq_some_iff.1 hgi).1
  have key : ∀ k ∈ blocksD p lv wv kv gs hs, k ≠ g.1 → w'.heap[k]? = w.heap[k]? := fun k hk hne => hg.block k (hlt k hk) (by simpa using hne)
  unfold blocksD at hn
  have n1 := List.nodup_cons.1 hn
  have n2 := List.nodup_append.1 n1.2
  have n3 := List.nodup_append.1 n2.2.1
  have n4 := List.nodup_append.1 n3.2.1
  have n5 := List.nodup_append.1 n4.2.1
  have mg : g.1 ∈ gs.map (·.1) := List.mem_map_of_mem (List.mem_of_getElem? hgi)
  have mg5 : g.1 ∈ gs.map (·.1) ++ hs.map (·.2.1) := List.mem_append_left _ mg
  have mg4 : g.1 ∈ kv.ownBlock.toList ++ (gs.map (·.1) ++ hs.map (·.2.1)) := List.mem_append_right _ mg5
  have mg3 : g.1 ∈ wv.ownBlock.toList ++ (kv.ownBlock.toList ++ (gs.map (·.1) ++ hs.map (·.2.1))) := List.mem_append_right _ mg4
  have mg2 : g.1 ∈ lv.ownBlock.toList ++ (wv.ownBlock.toList ++ (kv.ownBlock.toList ++ (gs.map (·.1) ++ hs.map (·.2.1)))) := List.mem_append_right _ mg3
  refine ⟨h.box.on (key p mem_p (fun e => n1.1 (e ▸ mg2))), h.last.on fun k hk => key k (mem_lv hk) ?_, h.wait.on fun k hk => key k (mem_wv hk) ?_, h.keep.on fun k hk => key k (mem_kv hk) ?_, by simpa using h.glen, ?_, h.hlen, ?_, h.nodup, h.inF⟩
  · exact n2.2.2 k (by simp [hk]) g.1 mg3
  · exact n3.2.2 k (by simp [hk]) g.1 mg4
  · exact n4.2.2 k (by simp [hk]) g.1 mg5
  · intro j g2 b2 hg2 hl2
    simp only [List.getElem?_set] at hl2
    by_cases hij : i = j
    · subst hij
      rw [hgi] at hg2
      cases hg2
      rw [if_pos rfl, if_pos (by rw [← h.glen]; exact hi)] at hl2
      cases hl2
      exact hb
    · rw [if_neg hij] at hl2
      refine (h.geach j g2 b2 hg2 hl2).on fun k hk => ?_
      simp only [Value.ownBlock, Option.some.injEq] at hk
      subst hk
      refine key _ (mem_gs hg2) fun e => hij ?_
      have e1 : (gs.map (·.1))[i]? = some g.1 := by rw [List.getElem?_map, hgi]; rfl
      have e2 : (gs.map (·.1))[j]? = some g.1 := by rw [List.getElem?_map, hg2, ← e]; rfl
      exact nodup_inj n5.1 e1 e2
  · intro j g2 z hg2 hl2
    refine ⟨(h.heach j g2 z hg2 hl2).1, (h.heach j g2 z hg2 hl2).2.on fun k hk => ?_⟩
    simp only [Value.ownBlock, Option.some.injEq] at hk
    subst hk
    exact key _ (mem_hs hg2) fun e => n5.2.2 g.1 mg g2.2.1 (List.mem_map_of_mem (List.mem_of_getElem? hg2)) e.symm
/-- the blocks of a disk, one by one -/
theorem nodup_parts : (blocksD p lv wv kv gs hs).Nodup ↔ (p ∉ lv.ownBlock.toList ++ (wv.ownBlock.toList ++ (kv.ownBlock.toList ++ (gs.map (·.1) ++ hs.map (·.2.1))))) ∧ (lv.ownBlock.toList ++ (wv.ownBlock.toList ++ (kv.ownBlock.toList ++ (gs.map (·.1) ++ hs.map (·.2.1))))).Nodup := by
  unfold blocksD; exact List.nodup_cons
/-- one write more -/
theorem DiskP.addWait (h : DiskP F w p d lv wv kv gs hs) {F' : Nat → Prop} {wv' : Value} {i : Nat} {g : Nat × Nat} {b : Bk.Blk}
    (on : ∀ k, k < w.heap.size → k ≠ p → wv.ownBlock ≠ some k → w'.heap[k]? = w.heap[k]?) (hbox : BoxAt w' p (cellsD d' lv wv' kv))
    (e1 : d'.size = d.size) (e2 : d'.lasting = d.lasting) (e3 : d'.waiting = d.waiting ++ [(i, b)]) (e4 : d'.keep = d.keep)
    (hw : OwnR (eWk d.size) w' 0 wv' (hs ++ [((i : Int), g)])) (near : wv'.ownBlock = wv.ownBlock ∨ ∀ k, wv'.ownBlock = some k → w.heap.size ≤ k)
    (hb : Own w' 0 (.slice (some ⟨g.1, 0, none⟩) d.size g.2) b) (hgn : w.heap.size ≤ g.1) (hne : wv'.ownBlock ≠ some g.1)
    (hF : ∀ k, F k → F' k) (hFg : F' g.1) (hFw : ∀ k, wv'.ownBlock = some k → F' k) : DiskP F' w' p d' lv wv' kv gs (hs ++ [((i : Int), g)]) := by
  have hn := h.nodup
  have hlt := h.lt
  have hF0 := h.inF
  have n0 := List.nodup_cons.1 hn
  have n2 := List.nodup_append.1 n0.2
  have n3 := List.nodup_append.1 n2.2.1
  have mw : ∀ k, wv.ownBlock = some k → k ∈ wv.ownBlock.toList := fun k hk => by simp [hk]
  -- what is in the other rows is not the row of writes
  have nlw : ∀ k ∈ lv.ownBlock.toList, wv.ownBlock ≠ some k := fun k hk e => n2.2.2 k hk k (List.mem_append_left _ (mw k e)) rfl
  have nrw : ∀ k ∈ kv.ownBlock.toList ++ (gs.map (·.1) ++ hs.map (·.2.1)), wv.ownBlock ≠ some k := fun k hk e => n3.2.2 k (mw k e) k hk rfl
  have key : ∀ k ∈ blocksD p lv wv kv gs hs, k ≠ p → wv.ownBlock ≠ some k → w'.heap[k]? = w.heap[k]? := fun k hk h1 h2 => on k (hlt k hk) h1 h2
  have r3 : ∀ k, k ∈ kv.ownBlock.toList ++ (gs.map (·.1) ++ hs.map (·.2.1)) → k ∈ blocksD p lv wv kv gs hs := fun k hk => by
    unfold blocksD; exact List.mem_cons_of_mem _ (List.mem_append_right _ (List.mem_append_right _ hk))
  have r3p : ∀ k, k ∈ kv.ownBlock.toList ++ (gs.map (·.1) ++ hs.map (·.2.1)) → k ≠ p := fun k hk => h.ne_p (List.mem_append_right _ (List.mem_append_right _ hk))
  have onR : ∀ k, k ∈ kv.ownBlock.toList ++ (gs.map (·.1) ++ hs.map (·.2.1)) → w'.heap[k]? = w.heap[k]? := fun k hk => key k (r3 k hk) (r3p k hk) (nrw k hk)
  have notnew : ∀ k ∈ blocksD p lv wv kv gs hs, wv.ownBlock ≠ some k → wv'.ownBlock ≠ some k := fun k hk h1 e => by
    rcases near with hnr | hnr
    · exact h1 (hnr ▸ e)
    · have := hnr k e; have := hlt k hk; omega
  refine ⟨hbox, ?_, by rw [e1]; exact hw, ?_, by rw [e2]; exact h.glen, ?_, by rw [e3]; simp [h.hlen], ?_, ?_, ?_⟩
  · rw [e1]; exact h.last.on fun k hk => key k (mem_lv hk) (h.ne_p (mem_rest_lv hk)) (nlw k (by simp [hk]))
  · rw [e4]; exact h.keep.on fun k hk => onR k (List.mem_append_left _ (by simp [hk]))
  · intro j g2 b2 hg2 hl2
    rw [e2] at hl2
    rw [e1]
    exact (h.geach j g2 b2 hg2 hl2).on fun k hk => by
      simp only [Value.ownBlock, Option.some.injEq] at hk
      subst hk
      exact onR _ (List.mem_append_right _ (List.mem_append_left _ (List.mem_map_of_mem (List.mem_of_getElem? hg2))))
  · intro j g2 z hg2 hl2
    rw [e3] at hl2
    rw [e1]
    rw [List.getElem?_append] at hg2 hl2
    rw [h.hlen] at hg2
    split at hg2
    · rename_i hj
      rw [if_pos hj] at hl2
      refine ⟨(h.heach j g2 z hg2 hl2).1, (h.heach j g2 z hg2 hl2).2.on fun k hk => ?_⟩
      simp only [Value.ownBlock, Option.some.injEq] at hk
      subst hk
      exact onR _ (List.mem_append_right _ (List.mem_append_right _ (List.mem_map_of_mem (f := fun x : Int × Nat × Nat => x.2.1) (List.mem_of_getElem? hg2))))
    · rename_i hj
      rw [if_neg hj] at hl2
      rw [List.getElem?_singleton] at hg2 hl2
      split at hg2
      · rename_i hj0
        rw [if_pos hj0] at hl2
        cases hg2; cases hl2
        exact ⟨rfl, hb⟩
      · cases hg2
  · -- no block twice
    have hgnew : ∀ k ∈ blocksD p lv wv kv gs hs, k ≠ g.1 := fun k hk e => by have := hlt k hk; omega
    have n0' : p ∉ lv.ownBlock.toList ++ (wv.ownBlock.toList ++ (kv.ownBlock.toList ++ (gs.map (·.1) ++ hs.map (·.2.1)))) := n0.1
    have n4 := List.nodup_append.1 n3.2.1
    have n5 := List.nodup_append.1 n4.2.1
    have pw : wv.ownBlock ≠ some p := fun e => n0' (List.mem_append_right _ (List.mem_append_left _ (mw p e)))
    have last : (gs.map (·.1) ++ (hs ++ [((i : Int), g)]).map (·.2.1)).Nodup := by
      rw [List.map_append, ← List.append_assoc]
      refine List.nodup_append.2 ⟨n4.2.1, by simp, fun a ha b hb2 => ?_⟩
      simp only [List.map_cons, List.map_nil, List.mem_singleton] at hb2
      subst hb2
      exact hgnew a (r3 a (List.mem_append_right _ ha))
    have memL : ∀ k, k ∈ gs.map (·.1) ++ (hs ++ [((i : Int), g)]).map (·.2.1) → k ∈ gs.map (·.1) ++ hs.map (·.2.1) ∨ k = g.1 := fun k hk => by
      rw [List.map_append, ← List.append_assoc] at hk
      rcases List.mem_append.1 hk with hk | hk
      · exact .inl hk
      · exact .inr (by simpa using hk)
    refine List.nodup_cons.2 ⟨fun hp => ?_, List.nodup_append.2 ⟨n2.1, List.nodup_append.2 ⟨?_, List.nodup_append.2 ⟨n4.1, last, fun a ha b hb2 => ?_⟩, fun a ha b hb2 => ?_⟩, fun a ha b hb2 => ?_⟩⟩
    · simp only [List.mem_append] at hp n0'
      rcases hp with hp | hp | hp | hp
      · exact n0' (.inl hp)
      · exact notnew p mem_p pw (by simpa using hp)
      · exact n0' (.inr (.inr (.inl hp)))
      · rcases memL p (List.mem_append.2 hp) with hp | hp
        · exact n0' (.inr (.inr (.inr (List.mem_append.1 hp))))
        · exact hgnew p mem_p hp
    · cases wv'.ownBlock <;> simp
    · rcases memL b hb2 with hb2 | rfl
      · exact n4.2.2 a ha b hb2
      · exact hgnew a (r3 a (List.mem_append_left _ ha))
    · have ha' : wv'.ownBlock = some a := by simpa using ha
      rcases List.mem_append.1 hb2 with hb2 | hb2
      · exact fun e => notnew b (r3 b (List.mem_append_left _ hb2)) (nrw b (List.mem_append_left _ hb2)) (e ▸ ha')
      · rcases memL b hb2 with hb2 | rfl
        · exact fun e => notnew b (r3 b (List.mem_append_right _ hb2)) (nrw b (List.mem_append_right _ hb2)) (e ▸ ha')
        · exact fun e => hne (e ▸ ha')
    · have ham : a ∈ blocksD p lv wv kv gs hs := by unfold blocksD; exact List.mem_cons_of_mem _ (List.mem_append_left _ ha)
      rcases List.mem_append.1 hb2 with hb2 | hb2
      · exact fun e => notnew a ham (nlw a ha) (by rw [e]; simpa using hb2)
      · rcases List.mem_append.1 hb2 with hb2 | hb2
        · exact n2.2.2 a ha b (List.mem_append_right _ (List.mem_append_left _ hb2))
        · rcases memL b hb2 with hb2 | rfl
          · exact n2.2.2 a ha b (List.mem_append_right _ (List.mem_append_right _ hb2))
          · exact hgnew a ham
  · intro k hk
    unfold blocksD at hk
    simp only [List.mem_cons, List.mem_append, Option.mem_toList, List.map_append, List.map_cons, List.map_nil, List.not_mem_nil, or_false] at hk
    rcases hk with rfl | hk | hk | hk | hk | hk | rfl
    · exact hF _ (hF0 _ mem_p)
    · exact hF _ (hF0 _ (mem_lv hk))
    · exact hFw k hk
    · exact hF _ (hF0 _ (mem_kv hk))
    · exact hF k (hF0 k (r3 k (List.mem_append_right _ (List.mem_append_left _ hk))))
    · exact hF k (hF0 k (r3 k (List.mem_append_right _ (List.mem_append_right _ hk))))
    · exact hFg
end
end Go.Proofs.YtflbioiildndoaaGreatDoor

/- disks in memory: a new one, block by block; what a flush makes of one -/
namespace Go.Proofs.YtflbioiildndoaaGreatDoor
open Go.RowKit

theorem nodup_set {l : List Nat} (h : l.Nodup) (i : Nat) {a : Nat} (ha : a ∉ l) : (l.set i a).Nodup := by
  induction l generalizing i with
  | nil => simp
  | cons x l ih =>
    have h1 := List.nodup_cons.1 h
    simp only [List.mem_cons, not_or] at ha
    cases i with
    | zero => exact List.nodup_cons.2 ⟨ha.2, h1.2⟩
    | succ j =>
      refine List.nodup_cons.2 ⟨fun hx => ?_, ih h1.2 j ha.2⟩
      rcases List.mem_or_eq_of_mem_set hx with hx | hx
      · exact h1.1 hx
      · exact ha.1 hx.symm

/-! ### a new disk -/
/-- behind k blocks -/
structure NewP (w0 wr : World) (p b s k : Nat) (lv : Value) (gs : List (Nat × Nat)) : Prop where
  box : BoxAt wr p (cellsD { Bk.new b s with lasting := List.replicate k (Bk.zeros s) } lv (.slice none 0 0) (.slice none 0 0))
  last : OwnR (eBk s) wr (p + 1) lv gs
  glen : gs.length = k
  each : ∀ (i : Nat) g, gs[i]? = some g → Own wr (p + 1) (.slice (some ⟨g.1, 0, none⟩) s g.2) (Bk.zeros s)
  nodup : (lv.ownBlock.toList ++ gs.map (·.1)).Nodup
  low : w0.heap.size ≤ p
  below : Below w0.heap.size w0 wr
theorem NewP.next {w0 wr w' : World} {p b s k : Nat} {lv lv' : Value} {gs : List (Nat × Nat)} (h : NewP w0 wr p b s k lv gs) {g : Nat × Nat}
    (on : ∀ i, i < wr.heap.size → i ≠ p → lv.ownBlock ≠ some i → w'.heap[i]? = wr.heap[i]?)
    (hbox : BoxAt w' p (cellsD { Bk.new b s with lasting := List.replicate (k + 1) (Bk.zeros s) } lv' (.slice none 0 0) (.slice none 0 0)))
    (hl : OwnR (eBk s) w' (p + 1) lv' (gs ++ [g])) (near : lv'.ownBlock = lv.ownBlock ∨ ∀ i, lv'.ownBlock = some i → wr.heap.size ≤ i)
    (hb : Own w' (p + 1) (.slice (some ⟨g.1, 0, none⟩) s g.2) (Bk.zeros s)) (hgn : wr.heap.size ≤ g.1) (hne : lv'.ownBlock ≠ some g.1) (hbel : Below w0.heap.size w0 w') : NewP w0 w' p b s (k + 1) lv' (gs ++ [g]) := by
  have lt : ∀ (i : Nat) (x : Nat × Nat), gs[i]? = some x → p + 1 ≤ x.1 ∧ x.1 < wr.heap.size := fun i x hx => (h.each i x hx).lt x.1 rfl
  have n1 := List.nodup_append.1 h.nodup
  have nin : ∀ x ∈ gs.map (·.1), lv.ownBlock ≠ some x := fun x hx e => n1.2.2 x (by simp [e]) x hx rfl
  have notg : ∀ x ∈ gs.map (·.1), x ≠ g.1 := fun x hx e => by
    obtain ⟨y, hy, rfl⟩ := List.mem_map.1 hx
    obtain ⟨i, hi, rfl⟩ := List.mem_iff_getElem.1 hy
    have := lt i _ (List.getElem?_eq_getElem hi)
    omega
  refine ⟨hbox, hl, by simp [h.glen], ?_, ?_, h.low, hbel⟩
  · intro i x hx
    rw [List.getElem?_append] at hx
    split at hx
    · refine (h.each i x hx).on fun j hj => ?_
      simp only [Value.ownBlock, Option.some.injEq] at hj
      subst hj
      have := lt i x hx
      exact on _ this.2 (by omega) (nin _ (List.mem_map_of_mem (List.mem_of_getElem? hx)))
    · rw [List.getElem?_singleton] at hx
      split at hx
      · cases hx; exact hb
      · cases hx
  · rw [List.map_append]
    refine List.nodup_append.2 ⟨by cases lv'.ownBlock <;> simp, ?_, fun a ha b hb2 => ?_⟩
    · refine List.nodup_append.2 ⟨n1.2.1, by simp, fun a ha b hb2 => ?_⟩
      simp only [List.map_cons, List.map_nil, List.mem_singleton] at hb2
      subst hb2; exact notg a ha
    · have ha' : lv'.ownBlock = some a := by simpa using ha
      rcases List.mem_append.1 hb2 with hb2 | hb2
      · rcases near with hnr | hnr
        · exact fun e => nin b hb2 (by rw [← hnr, ha', e])
        · have h1 := hnr a ha'
          obtain ⟨y, hy, rfl⟩ := List.mem_map.1 hb2
          obtain ⟨i, hi, rfl⟩ := List.mem_iff_getElem.1 hy
          have := lt i _ (List.getElem?_eq_getElem hi)
          omega
      · simp only [List.map_cons, List.map_nil, List.mem_singleton] at hb2
        subst hb2
        exact fun e => hne (e ▸ ha')
/-- a new disk is whole -/
theorem NewP.disk {w0 wr : World} {p b s : Nat} {lv : Value} {gs : List (Nat × Nat)} (h : NewP w0 wr p b s b lv gs) : DiskAt (fun k => w0.heap.size ≤ k ∧ k < wr.heap.size) wr p (Bk.new b s) := by
  have lt : ∀ (i : Nat) (x : Nat × Nat), gs[i]? = some x → p + 1 ≤ x.1 ∧ x.1 < wr.heap.size := fun i x hx => (h.each i x hx).lt x.1 rfl
  have low := h.low
  refine ⟨lv, .slice none 0 0, .slice none 0 0, gs, [], h.box, h.last.mono (Nat.zero_le _), OwnR.nil _ _ _, OwnR.nil _ _ _, by simp [Bk.new, h.glen], ?_, rfl, fun i x z hx _ => (by cases hx), ?_, ?_⟩
  · intro i x y hx hy
    simp only [Bk.new, List.getElem?_replicate] at hy
    split at hy
    · cases hy
      exact (h.each i x hx).mono (Nat.zero_le _)
    · cases hy
  · unfold blocksD
    simp only [show (Value.slice none 0 0).ownBlock = none from rfl, Option.toList_none, List.nil_append, List.map_nil, List.append_nil]
    refine List.nodup_cons.2 ⟨fun hp => ?_, h.nodup⟩
    rcases List.mem_append.1 hp with hp | hp
    · have := (h.last.lt p (by simpa using hp)).1; omega
    · obtain ⟨y, hy, e⟩ := List.mem_map.1 hp
      obtain ⟨i, hi, rfl⟩ := List.mem_iff_getElem.1 hy
      have := lt i _ (List.getElem?_eq_getElem hi)
      omega
  · intro k hk
    unfold blocksD at hk
    simp only [show (Value.slice none 0 0).ownBlock = none from rfl, Option.toList_none, List.nil_append, List.map_nil, List.append_nil, List.mem_cons, List.mem_append, Option.mem_toList] at hk
    rcases hk with rfl | hk | hk
    · exact ⟨low, h.box.lt⟩
    · have := h.last.lt k hk
      exact ⟨by omega, this.2⟩
    · obtain ⟨y, hy, rfl⟩ := List.mem_map.1 hk
      obtain ⟨i, hi, rfl⟩ := List.mem_iff_getElem.1 hy
      have := lt i _ (List.getElem?_eq_getElem hi)
      exact ⟨by omega, this.2⟩

/-! ### a flush -/
/-- where the lasting blocks lie behind the first k of what waits -/
def gsK (hs : List (Int × Nat × Nat)) (gs : List (Nat × Nat)) : Nat → List (Nat × Nat)
  | 0 => gs
  | k + 1 => match hs[k]? with | some x => (gsK hs gs k).set x.1.toNat x.2 | none => gsK hs gs k
theorem gsK_succ {hs : List (Int × Nat × Nat)} {gs : List (Nat × Nat)} {k : Nat} {x : Int × Nat × Nat} (h : hs[k]? = some x) : gsK hs gs (k + 1) = (gsK hs gs k).set x.1.toNat x.2 := by rw [gsK, h]
theorem gsK_length (hs : List (Int × Nat × Nat)) (gs : List (Nat × Nat)) : ∀ k, (gsK hs gs k).length = gs.length
  | 0 => rfl
  | k + 1 => by
    rw [gsK]; split
    · rw [List.length_set, gsK_length hs gs k]
    · exact gsK_length hs gs k
theorem gsK_mem (hs : List (Int × Nat × Nat)) (gs : List (Nat × Nat)) : ∀ k, ∀ y ∈ (gsK hs gs k).map (·.1), y ∈ gs.map (·.1) ∨ ∃ j x, j < k ∧ hs[j]? = some x ∧ x.2.1 = y
  | 0, y, hy => .inl hy
  | k + 1, y, hy => by
    rw [gsK] at hy
    split at hy
    · rename_i x hx
      rw [List.map_set] at hy
      rcases List.mem_or_eq_of_mem_set hy with hy | hy
      · rcases gsK_mem hs gs k y hy with h | ⟨j, z, h1, h2⟩
        · exact .inl h
        · exact .inr ⟨j, z, by omega, h2⟩
      · exact .inr ⟨k, x, by omega, hx, hy.symm⟩
    · rcases gsK_mem hs gs k y hy with h | ⟨j, z, h1, h2⟩
      · exact .inl h
      · exact .inr ⟨j, z, by omega, h2⟩
theorem gsK_nodup {hs : List (Int × Nat × Nat)} {gs : List (Nat × Nat)} (h : (gs.map (·.1) ++ hs.map (·.2.1)).Nodup) : ∀ k, ((gsK hs gs k).map (·.1)).Nodup
  | 0 => (List.nodup_append.1 h).1
  | k + 1 => by
    have ih := gsK_nodup h k
    rw [gsK]; split
    · rename_i x hx
      rw [List.map_set]
      refine nodup_set ih _ fun hm => ?_
      have n := List.nodup_append.1 h
      have mx : x.2.1 ∈ hs.map (·.2.1) := List.mem_map_of_mem (f := fun x : Int × Nat × Nat => x.2.1) (List.mem_of_getElem? hx)
      rcases gsK_mem hs gs k _ hm with h1 | ⟨j, z, hj, hz, e⟩
      · exact n.2.2 _ h1 _ mx rfl
      · have e1 : (hs.map (·.2.1))[k]? = some x.2.1 := by rw [List.getElem?_map, hx]; rfl
        have e2 : (hs.map (·.2.1))[j]? = some x.2.1 := by rw [List.getElem?_map, hz, ← e]; rfl
        have := nodup_inj n.2.1 e2 e1
        omega
    · exact ih
section
variable {F : Nat → Prop} {w w' : World} {p : Nat} {d d' : Bk.Disk} {lv wv kv : Value} {gs : List (Nat × Nat)} {hs : List (Int × Nat × Nat)}
theorem DiskP.gsK_each (h : DiskP F w p d lv wv kv gs hs) : ∀ k, k ≤ hs.length → ∀ (i : Nat) g b, (gsK hs gs k)[i]? = some g → (Bk.allK d.waiting d.lasting k)[i]? = some b → Own w 0 (.slice (some ⟨g.1, 0, none⟩) d.size g.2) b
  | 0, _, i, g, b, hg, hb => h.geach i g b hg hb
  | k + 1, hk, i, g, b, hg, hb => by
    have ih := h.gsK_each k (by omega)
    obtain ⟨x, hx⟩ := getElem?_some_of_lt (show k < hs.length by omega)
    obtain ⟨z, hz⟩ := getElem?_some_of_lt (show k < d.waiting.length by rw [← h.hlen]; omega)
    obtain ⟨e, ho⟩ := h.heach k x z hx hz
    rw [gsK_succ hx] at hg
    rw [Bk.allK, hz] at hb
    simp only at hb
    have e2 : x.1.toNat = z.1 := by omega
    rw [e2] at hg
    rw [List.getElem?_set] at hg hb
    by_cases hi : z.1 = i
    · rw [if_pos hi] at hg hb
      split at hg
      · split at hb
        · cases hg; cases hb; exact ho
        · cases hb
      · cases hg
    · rw [if_neg hi] at hg hb
      exact ih i g b hg hb
theorem allK_length (q : List (Nat × Bk.Blk)) (l : List Bk.Blk) : ∀ k, (Bk.allK q l k).length = l.length
  | 0 => rfl
  | k + 1 => by
    rw [Bk.allK]; split
    · rw [List.length_set, allK_length q l k]
    · exact allK_length q l k
/-- what waited lasts -/
theorem DiskP.flushed (h : DiskP F w p d lv wv kv gs hs) (on : ∀ k, k < w.heap.size → k ≠ p → lv.ownBlock ≠ some k → w'.heap[k]? = w.heap[k]?)
    (hbox : BoxAt w' p (cellsD d' lv (.slice none 0 0) kv)) (hl : OwnR (eBk d.size) w' 0 lv (gsK hs gs hs.length))
    (e1 : d'.size = d.size) (e2 : d'.lasting = Bk.allK d.waiting d.lasting d.waiting.length) (e3 : d'.waiting = []) (e4 : d'.keep = d.keep) : DiskP F w' p d' lv (.slice none 0 0) kv (gsK hs gs hs.length) [] := by
  have hlt := h.lt
  have n0 := List.nodup_cons.1 h.nodup
  have n2 := List.nodup_append.1 n0.2
  have n3 := List.nodup_append.1 n2.2.1
  have n4 := List.nodup_append.1 n3.2.1
  have ml : ∀ k, lv.ownBlock = some k → k ∈ lv.ownBlock.toList := fun k hk => by simp [hk]
  have key : ∀ k ∈ kv.ownBlock.toList ++ (gs.map (·.1) ++ hs.map (·.2.1)), w'.heap[k]? = w.heap[k]? := fun k hk => by
    have m1 : k ∈ wv.ownBlock.toList ++ (kv.ownBlock.toList ++ (gs.map (·.1) ++ hs.map (·.2.1))) := List.mem_append_right _ hk
    have m2 : k ∈ lv.ownBlock.toList ++ (wv.ownBlock.toList ++ (kv.ownBlock.toList ++ (gs.map (·.1) ++ hs.map (·.2.1)))) := List.mem_append_right _ m1
    exact on k (hlt k (List.mem_cons_of_mem _ m2)) (h.ne_p m2) (fun e => n2.2.2 k (ml k e) k m1 rfl)
  have mem : ∀ y ∈ (gsK hs gs hs.length).map (·.1), y ∈ gs.map (·.1) ++ hs.map (·.2.1) := fun y hy => by
    rcases gsK_mem hs gs _ y hy with h1 | ⟨j, x, _, hx, rfl⟩
    · exact List.mem_append_left _ h1
    · exact List.mem_append_right _ (List.mem_map_of_mem (f := fun x : Int × Nat × Nat => x.2.1) (List.mem_of_getElem? hx))
  refine ⟨hbox, by rw [e1]; exact hl, OwnR.nil _ _ _, ?_, by rw [e2, allK_length, gsK_length, h.glen], ?_, by rw [e3]; rfl, fun i x z hx _ => (by cases hx), ?_, ?_⟩
  · rw [e4]; exact h.keep.on fun k hk => key k (List.mem_append_left _ (by simp [hk]))
  · intro i g b hg hb
    rw [e2, ← h.hlen] at hb
    rw [e1]
    refine (h.gsK_each _ (Nat.le_refl _) i g b hg hb).on fun k hk => ?_
    simp only [Value.ownBlock, Option.some.injEq] at hk
    subst hk
    exact key _ (List.mem_append_right _ (mem _ (List.mem_map_of_mem (f := fun x : Nat × Nat => x.1) (List.mem_of_getElem? hg))))
  · unfold blocksD
    simp only [show (Value.slice none 0 0).ownBlock = none from rfl, Option.toList_none, List.nil_append, List.map_nil, List.append_nil]
    refine List.nodup_cons.2 ⟨fun hp => ?_, List.nodup_append.2 ⟨n2.1, List.nodup_append.2 ⟨n4.1, gsK_nodup n4.2.1 _, fun a ha b hb => n4.2.2 a ha b (mem b hb)⟩, fun a ha b hb => ?_⟩⟩
    · refine n0.1 ?_
      rcases List.mem_append.1 hp with hp | hp
      · exact List.mem_append_left _ hp
      · rcases List.mem_append.1 hp with hp | hp
        · exact List.mem_append_right _ (List.mem_append_right _ (List.mem_append_left _ hp))
        · exact List.mem_append_right _ (List.mem_append_right _ (List.mem_append_right _ (mem p hp)))
    · rcases List.mem_append.1 hb with hb | hb
      · exact n2.2.2 a ha b (List.mem_append_right _ (List.mem_append_left _ hb))
      · exact n2.2.2 a ha b (List.mem_append_right _ (List.mem_append_right _ (mem b hb)))
  · intro k hk
    unfold blocksD at hk
    simp only [show (Value.slice none 0 0).ownBlock = none from rfl, Option.toList_none, List.nil_append, List.map_nil, List.append_nil, List.mem_cons, List.mem_append, Option.mem_toList] at hk
    rcases hk with rfl | hk | hk | hk
    · exact h.inF _ mem_p
    · exact h.inF _ (mem_lv hk)
    · exact h.inF _ (mem_kv hk)
    · have := mem k hk
      refine h.inF k (List.mem_cons_of_mem _ (List.mem_append_right _ (List.mem_append_right _ (List.mem_append_right _ this))))
end
end Go.Proofs.YtflbioiildndoaaGreatDoor
