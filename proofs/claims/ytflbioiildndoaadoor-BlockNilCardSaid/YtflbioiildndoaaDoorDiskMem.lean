/- disks in memory: the program's, whose blocks are apart from each other; the document's; what stays where blocks stay -/
import Derived.Test.YtflbioiildndoaaDoorBlockLaw
import Derived.Test.YtflbioiildndoaaDoorBox
import Derived.Test.YtflbioiildndoaaDoorElem
namespace Go.Proofs.YtflbioiildndoaaDoor
open Go.RowKit

/-- a value's block, if it has one, is of G -/
def InG (G : Nat → Prop) (v : Value) : Prop := ∀ k, v.ownBlock = some k → G k
theorem InG.mono {G G' : Nat → Prop} {v : Value} (h : InG G v) (hg : ∀ k, G k → G' k) : InG G' v := fun k hk => hg k (h k hk)
theorem cell_on {w w' : World} {a : Addr} {v : Value} (h : w.cell? a = some v) (hs : w'.heap[a.block]? = w.heap[a.block]?) : w'.cell? a = some v := by
  simp only [World.cell?, hs] at h ⊢; exact h
theorem frozen_on {w w' : World} {a : Addr} (hs : w'.heap[a.block]? = w.heap[a.block]?) : w'.frozen? a = w.frozen? a := by
  simp only [World.frozen?, hs]
theorem BoxAt.on {w w' : World} {r : Nat} {vs : List Value} (h : BoxAt w r vs) (hs : w'.heap[r]? = w.heap[r]?) : BoxAt w' r vs := by
  have hl : r < w'.heap.size := by
    obtain ⟨o, ho⟩ : ∃ o, w.heap[r]? = some o := ⟨_, Array.getElem?_eq_getElem h.1⟩
    rw [ho] at hs
    exact (Array.getElem?_eq_some_iff.1 hs).1
  refine ⟨hl, fun i v hv => ?_⟩
  obtain ⟨h1, h2⟩ := h.2 i v hv
  exact ⟨cell_on h1 hs, by rw [frozen_on hs]; exact h2⟩
theorem BytesAt.on {w w' : World} {v : Value} {l : List UInt8} (h : BytesAt w v l) (hs : ∀ k, v.ownBlock = some k → w'.heap[k]? = w.heap[k]?) : BytesAt w' v l := by
  obtain ⟨a, c, rfl, h1, h2, h3⟩ := h
  refine ⟨a, c, rfl, h1, h2, h3.imp id ?_⟩
  rintro ⟨b, o, rfl, hc⟩
  exact ⟨b, o, rfl, fun i x hx => cell_on (hc i x hx) (hs b rfl)⟩
theorem RowAt.on {α : Type} {E : Elem α} {w w' : World} {v : Value} {l : List α} (h : RowAt E w v l) (hs : ∀ k, v.ownBlock = some k → w'.heap[k]? = w.heap[k]?) : RowAt E w' v l := by
  obtain ⟨a, c, rfl, h1, h2, h3⟩ := h
  refine ⟨a, c, rfl, h1, h2, h3.imp id ?_⟩
  rintro ⟨b, o, rfl, hc⟩
  exact ⟨b, o, rfl, fun i x hx j u hu => cell_on (hc i x hx j u hu) (hs b rfl)⟩
theorem RowAt.ofNil {α : Type} {E : Elem α} {w w' : World} {v : Value} (h : RowAt E w v []) : RowAt E w' v [] := by
  obtain ⟨a, c, rfl, h1, h2, _⟩ := h
  exact ⟨a, c, rfl, h1, h2, .inl rfl⟩
/-- the block of a row that is not empty is there -/
theorem RowAt.held {α : Type} {E : Elem α} {w : World} {v : Value} {l : List α} (h : RowAt E w v l) (hE : ∀ x : α, 0 < (E.enc x).length) : l = [] ∨ ∀ k, v.ownBlock = some k → k < w.heap.size := by
  obtain ⟨a, c, rfl, h1, h2, h3⟩ := h
  rcases h3 with h3 | ⟨b, o, rfl, hc⟩
  · exact .inl h3
  · cases l with
    | nil => exact .inl rfl
    | cons x l =>
      refine .inr fun k hk => ?_
      simp only [Value.ownBlock, Option.some.injEq] at hk
      subst hk
      exact World.block_lt_of_cell? w _ (hc 0 x rfl 0 _ (List.getElem?_eq_getElem (hE x)))
theorem owns_on {w w' : World} {base size n : Nat} {e : TypeId} {v : Value} {xs : List Value} (h : w.ownsRow base e size v n xs) (hs : ∀ k, v.ownBlock = some k → w'.heap[k]? = w.heap[k]?) : w'.ownsRow base e size v n xs := by
  refine ⟨h.1, h.2.imp id ?_⟩
  rintro ⟨g, cap, cur, rfl, h2, h3, r⟩
  exact ⟨g, cap, cur, rfl, h2, by rw [hs g rfl]; exact h3, r⟩
theorem Own.on {w w' : World} {base : Nat} {v : Value} {l : List UInt8} (h : Own w base v l) (hs : ∀ k, v.ownBlock = some k → w'.heap[k]? = w.heap[k]?) : Own w' base v l := owns_on h hs
theorem OwnR.on {α : Type} {E : Elem α} {w w' : World} {base : Nat} {v : Value} {l : List α} (h : OwnR E w base v l) (hs : ∀ k, v.ownBlock = some k → w'.heap[k]? = w.heap[k]?) : OwnR E w' base v l := owns_on h hs

/-! ### rows of blocks, of writes, of bools -/
abbrev Sl3 := Option Addr × Nat × Nat
def Sl3.v (x : Sl3) : Value := .slice x.1 x.2.1 x.2.2
/-- a row of slices of bytes -/
abbrev eSl : Elem Sl3 := ⟨40, 32, 1, 24, .slice none 0 0, fun x => [.slice x.1 x.2.1 x.2.2]⟩
theorem infoSl : (Tryd.prog.info? 32).map (fun i => (i.zero, i.size, i.bytes)) = some (some (.slice none 0 0), 1, 24) := by kernel_rfl
theorem eSl_ok : eSl.Ok where
  len _ := rfl
  one x u hu := by simp at hu; subst hu; rfl
  und := Tryd.underlying40
  info := infoSl
  zs := rfl
/-- a row of blocks of a size, each in a block of memory of its own: the block, the capacity -/
abbrev eBk (s : Nat) : Elem (Nat × Nat) := ⟨40, 32, 1, 24, .slice none 0 0, fun x => [.slice (some ⟨x.1, 0, none⟩) s x.2]⟩
theorem eBk_ok (s : Nat) : (eBk s).Ok where
  len _ := rfl
  one x u hu := by simp at hu; subst hu; rfl
  und := Tryd.underlying40
  info := infoSl
  zs := rfl
/-- the program's writes: the place, the block, the capacity -/
abbrev eWk (s : Nat) : Elem (Int × Nat × Nat) := ⟨96, 105, 2, 32, .agg #[.int .i64 0, .slice none 0 0], fun x => [.int .i64 x.1, .slice (some ⟨x.2.1, 0, none⟩) s x.2.2]⟩
theorem infoWk : (Tryd.prog.info? 105).map (fun i => (i.zero, i.size, i.bytes)) = some (some (.agg #[.int .i64 0, .slice none 0 0]), 2, 32) := by kernel_rfl
theorem eWk_ok (s : Nat) : (eWk s).Ok where
  len _ := rfl
  one x u hu := by simp at hu; rcases hu with rfl | rfl <;> rfl
  und := Tryd.underlying96
  info := infoWk
  zs := rfl
/-- the document's writes -/
abbrev eWr : Elem (Int × Sl3) := ⟨41, 132, 2, 32, .agg #[.int .i64 0, .slice none 0 0], fun x => [.int .i64 x.1, .slice x.2.1 x.2.2.1 x.2.2.2]⟩
theorem infoWr : (Tryd.prog.info? 132).map (fun i => (i.zero, i.size, i.bytes)) = some (some (.agg #[.int .i64 0, .slice none 0 0]), 2, 32) := by kernel_rfl
theorem eWr_ok : eWr.Ok where
  len _ := rfl
  one x u hu := by simp at hu; rcases hu with rfl | rfl <;> rfl
  und := Tryd.underlying41
  info := infoWr
  zs := rfl
abbrev eBool : Elem Bool := ⟨38, 4, 1, 1, .bool false, fun x => [.bool x]⟩
theorem infoBool : (Tryd.prog.info? 4).map (fun i => (i.zero, i.size, i.bytes)) = some (some (.bool false), 1, 1) := by kernel_rfl
theorem eBool_ok : eBool.Ok where
  len _ := rfl
  one x u hu := by simp at hu; subst hu; rfl
  und := Tryd.underlying38
  info := infoBool
  zs := rfl

/-! ### the program's disk -/
/-- the cells of a disk -/
def cellsD (d : Bk.Disk) (lv wv kv : Value) : List Value := [.int .i64 (d.blocks : Int), .int .i64 (d.size : Int), lv, wv, .bool d.lit, .int .i64 d.after, .int .i64 d.torn, .int .i64 d.cut, kv, .bool d.off, .int .i64 d.count]
/-- the blocks of memory that a disk has -/
def blocksD (p : Nat) (lv wv kv : Value) (gs : List (Nat × Nat)) (hs : List (Int × Nat × Nat)) : List Nat :=
  p :: (lv.ownBlock.toList ++ (wv.ownBlock.toList ++ (kv.ownBlock.toList ++ (gs.map (·.1) ++ hs.map (·.2.1)))))
structure DiskP (F : Nat → Prop) (w : World) (p : Nat) (d : Bk.Disk) (lv wv kv : Value) (gs : List (Nat × Nat)) (hs : List (Int × Nat × Nat)) : Prop where
  box : BoxAt w p (cellsD d lv wv kv)
  last : OwnR (eBk d.size) w 0 lv gs
  wait : OwnR (eWk d.size) w 0 wv hs
  keep : OwnR eBool w 0 kv d.keep
  glen : gs.length = d.lasting.length
  geach : ∀ (i : Nat) g b, gs[i]? = some g → d.lasting[i]? = some b → Own w 0 (.slice (some ⟨g.1, 0, none⟩) d.size g.2) b
  hlen : hs.length = d.waiting.length
  heach : ∀ (i : Nat) h z, hs[i]? = some h → d.waiting[i]? = some z → h.1 = (z.1 : Int) ∧ Own w 0 (.slice (some ⟨h.2.1, 0, none⟩) d.size h.2.2) z.2
  nodup : (blocksD p lv wv kv gs hs).Nodup
  inF : ∀ k ∈ blocksD p lv wv kv gs hs, F k
/-- a disk of the program at a block: all its memory lies in F -/
def DiskAt (F : Nat → Prop) (w : World) (p : Nat) (d : Bk.Disk) : Prop := ∃ lv wv kv gs hs, DiskP F w p d lv wv kv gs hs
/-- what is ahead of a block of the memory is there -/
def Held (F : Nat → Prop) (w : World) : Prop := ∀ k, F k → k < w.heap.size
/-- all blocks outside F are as they were -/
structure Beside (F : Nat → Prop) (w w' : World) : Prop where
  os : w'.os = w.os
  tape : w'.tape = w.tape
  output : w'.output = w.output
  size : w.heap.size ≤ w'.heap.size
  block : ∀ k, k < w.heap.size → ¬ F k → w'.heap[k]? = w.heap[k]?
/-- F grew by new blocks alone -/
def Grows (F : Nat → Prop) (w : World) (F' : Nat → Prop) (w' : World) : Prop := ∀ k, F' k → (F k ∨ w.heap.size ≤ k) ∧ k < w'.heap.size
theorem DiskP.mono {F F' : Nat → Prop} {w : World} {p : Nat} {d : Bk.Disk} {lv wv kv : Value} {gs : List (Nat × Nat)} {hs : List (Int × Nat × Nat)} (h : DiskP F w p d lv wv kv gs hs) (hf : ∀ k, F k → F' k) : DiskP F' w p d lv wv kv gs hs :=
  { h with inF := fun k hk => hf k (h.inF k hk) }
theorem mem_gs {p : Nat} {lv wv kv : Value} {gs : List (Nat × Nat)} {hs : List (Int × Nat × Nat)} {i : Nat} {g : Nat × Nat} (h : gs[i]? = some g) : g.1 ∈ blocksD p lv wv kv gs hs := by
  have : g ∈ gs := List.mem_of_getElem? h
  unfold blocksD
  simp only [List.mem_cons, List.mem_append, List.mem_map]
  exact .inr (.inr (.inr (.inr (.inl ⟨g, this, rfl⟩))))
theorem mem_hs {p : Nat} {lv wv kv : Value} {gs : List (Nat × Nat)} {hs : List (Int × Nat × Nat)} {i : Nat} {g : Int × Nat × Nat} (h : hs[i]? = some g) : g.2.1 ∈ blocksD p lv wv kv gs hs := by
  have : g ∈ hs := List.mem_of_getElem? h
  unfold blocksD
  simp only [List.mem_cons, List.mem_append, List.mem_map]
  exact .inr (.inr (.inr (.inr (.inr ⟨g, this, rfl⟩))))
theorem mem_lv {p : Nat} {lv wv kv : Value} {gs : List (Nat × Nat)} {hs : List (Int × Nat × Nat)} {k : Nat} (h : lv.ownBlock = some k) : k ∈ blocksD p lv wv kv gs hs := by
  unfold blocksD; rw [h]; simp
theorem mem_wv {p : Nat} {lv wv kv : Value} {gs : List (Nat × Nat)} {hs : List (Int × Nat × Nat)} {k : Nat} (h : wv.ownBlock = some k) : k ∈ blocksD p lv wv kv gs hs := by
  unfold blocksD; rw [h]; simp
theorem mem_kv {p : Nat} {lv wv kv : Value} {gs : List (Nat × Nat)} {hs : List (Int × Nat × Nat)} {k : Nat} (h : kv.ownBlock = some k) : k ∈ blocksD p lv wv kv gs hs := by
  unfold blocksD; rw [h]; simp
theorem mem_p {p : Nat} {lv wv kv : Value} {gs : List (Nat × Nat)} {hs : List (Int × Nat × Nat)} : p ∈ blocksD p lv wv kv gs hs := by
  unfold blocksD; simp
/-- a disk stays where its blocks stay -/
theorem DiskP.on {F : Nat → Prop} {w w' : World} {p : Nat} {d : Bk.Disk} {lv wv kv : Value} {gs : List (Nat × Nat)} {hs : List (Int × Nat × Nat)} (h : DiskP F w p d lv wv kv gs hs) (hb : ∀ k ∈ blocksD p lv wv kv gs hs, w'.heap[k]? = w.heap[k]?) : DiskP F w' p d lv wv kv gs hs where
  box := h.box.on (hb p mem_p)
  last := h.last.on fun k hk => hb k (mem_lv hk)
  wait := h.wait.on fun k hk => hb k (mem_wv hk)
  keep := h.keep.on fun k hk => hb k (mem_kv hk)
  glen := h.glen
  geach i g b hg hl := (h.geach i g b hg hl).on fun k hk => by
    simp only [Value.ownBlock, Option.some.injEq] at hk
    subst hk; exact hb _ (mem_gs hg)
  hlen := h.hlen
  heach i g z hg hl := ⟨(h.heach i g z hg hl).1, (h.heach i g z hg hl).2.on fun k hk => by
    simp only [Value.ownBlock, Option.some.injEq] at hk
    subst hk; exact hb _ (mem_hs hg)⟩
  nodup := h.nodup
  inF := h.inF
theorem DiskAt.on {F : Nat → Prop} {w w' : World} {p : Nat} {d : Bk.Disk} (h : DiskAt F w p d) (hb : ∀ k, F k → w'.heap[k]? = w.heap[k]?) : DiskAt F w' p d := by
  obtain ⟨lv, wv, kv, gs, hs, h⟩ := h
  exact ⟨lv, wv, kv, gs, hs, h.on fun k hk => hb k (h.inF k hk)⟩
theorem DiskAt.below {F : Nat → Prop} {w w' : World} {p : Nat} {d : Bk.Disk} (h : DiskAt F w p d) (hF : Held F w) (hb : Below w.heap.size w w') : DiskAt F w' p d := h.on fun k hk => hb.block k (hF k hk)
theorem Beside.refl (F : Nat → Prop) (w : World) : Beside F w w := ⟨rfl, rfl, rfl, Nat.le_refl _, fun _ _ _ => rfl⟩
theorem Beside.of_below {F : Nat → Prop} {w w' : World} (h : Below w.heap.size w w') : Beside F w w' := ⟨h.os, h.tape, h.output, h.size, fun k hk _ => h.block k hk⟩
theorem Beside.trans {F F1 : Nat → Prop} {w w1 w2 : World} (h : Beside F w w1) (hg : Grows F w F1 w1) (k : Beside F1 w1 w2) : Beside F w w2 :=
  ⟨k.os.trans h.os, k.tape.trans h.tape, k.output.trans h.output, Nat.le_trans h.size k.size, fun i hi hn => by
    rw [k.block i (Nat.lt_of_lt_of_le hi h.size) (fun hf => by
      rcases (hg i hf).1 with h1 | h1
      · exact hn h1
      · omega), h.block i hi hn]⟩
theorem Beside.same {F : Nat → Prop} {w w1 w2 : World} (h : Beside F w w1) (k : Beside F w1 w2) : Beside F w w2 :=
  ⟨k.os.trans h.os, k.tape.trans h.tape, k.output.trans h.output, Nat.le_trans h.size k.size, fun i hi hn => by
    rw [k.block i (Nat.lt_of_lt_of_le hi h.size) hn, h.block i hi hn]⟩
theorem Grows.refl {F : Nat → Prop} {w w' : World} (h : Held F w) (hs : w.heap.size ≤ w'.heap.size) : Grows F w F w' := fun k hk => ⟨.inl hk, Nat.lt_of_lt_of_le (h k hk) hs⟩
theorem Grows.trans {F F1 F2 : Nat → Prop} {w w1 w2 : World} (h : Grows F w F1 w1) (hs : w.heap.size ≤ w1.heap.size) (k : Grows F1 w1 F2 w2) : Grows F w F2 w2 := fun i hi => by
  obtain ⟨h1, h2⟩ := k i hi
  refine ⟨?_, h2⟩
  rcases h1 with h1 | h1
  · exact (h i h1).1
  · exact .inr (by omega)
theorem Grows.held {F F1 : Nat → Prop} {w w1 : World} (h : Grows F w F1 w1) : Held F1 w1 := fun k hk => (h k hk).2
/-- what was outside F is outside what F became -/
theorem Grows.out {F F1 : Nat → Prop} {w w1 : World} (h : Grows F w F1 w1) {k : Nat} (hk : k < w.heap.size) (hn : ¬ F k) : ¬ F1 k := fun hf => by
  rcases (h k hf).1 with h1 | h1
  · exact hn h1
  · omega
theorem Beside.below {F : Nat → Prop} {B : Nat} {w w' : World} (h : Beside F w w') (hB : ∀ k, F k → B ≤ k) (hs : B ≤ w.heap.size) : Below B w w' :=
  ⟨h.os, h.tape, h.output, h.size, fun k hk => h.block k (by omega) (fun hf => by have := hB k hf; omega)⟩

/-! ### the document's disk -/
structure DiskR (G : Nat → Prop) (w : World) (d : Bk.Disk) (lv wv kv : Value) (xs : List Sl3) (ys : List (Int × Sl3)) : Prop where
  last : RowAt eSl w lv xs
  wait : RowAt eWr w wv ys
  keep : RowAt eBool w kv d.keep
  lastG : InG G lv
  waitG : InG G wv
  keepG : d.keep = [] ∨ InG G kv
  xlen : xs.length = d.lasting.length
  xeach : ∀ (i : Nat) x b, xs[i]? = some x → d.lasting[i]? = some b → BytesAt w (.slice x.1 x.2.1 x.2.2) b ∧ InG G (.slice x.1 x.2.1 x.2.2)
  ylen : ys.length = d.waiting.length
  yeach : ∀ (i : Nat) y z, ys[i]? = some y → d.waiting[i]? = some z → y.1 = (z.1 : Int) ∧ BytesAt w (.slice y.2.1 y.2.2.1 y.2.2.2) z.2 ∧ InG G (.slice y.2.1 y.2.2.1 y.2.2.2)
def refD (d : Bk.Disk) (lv wv kv : Value) : Value := .agg #[.int .i64 (d.blocks : Int), .int .i64 (d.size : Int), lv, wv, .bool d.lit, .int .i64 d.after, .int .i64 d.torn, .int .i64 d.cut, kv, .bool d.off, .int .i64 d.count]
def RefAt (G : Nat → Prop) (w : World) (v : Value) (d : Bk.Disk) : Prop := ∃ lv wv kv xs ys, v = refD d lv wv kv ∧ DiskR G w d lv wv kv xs ys
theorem DiskR.on {G : Nat → Prop} {w w' : World} {d : Bk.Disk} {lv wv kv : Value} {xs : List Sl3} {ys : List (Int × Sl3)} (h : DiskR G w d lv wv kv xs ys) (hb : ∀ k, G k → w'.heap[k]? = w.heap[k]?) : DiskR G w' d lv wv kv xs ys where
  last := h.last.on fun k hk => hb k (h.lastG k hk)
  wait := h.wait.on fun k hk => hb k (h.waitG k hk)
  keep := h.keepG.elim (fun e => by rw [e]; have := h.keep; rw [e] at this; exact this.ofNil) fun hG => h.keep.on fun k hk => hb k (hG k hk)
  lastG := h.lastG
  waitG := h.waitG
  keepG := h.keepG
  xlen := h.xlen
  xeach i x b hx hl := ⟨(h.xeach i x b hx hl).1.on fun k hk => hb k ((h.xeach i x b hx hl).2 k hk), (h.xeach i x b hx hl).2⟩
  ylen := h.ylen
  yeach i x b hx hl := ⟨(h.yeach i x b hx hl).1, (h.yeach i x b hx hl).2.1.on fun k hk => hb k ((h.yeach i x b hx hl).2.2 k hk), (h.yeach i x b hx hl).2.2⟩
theorem DiskR.mono {G G' : Nat → Prop} {w : World} {d : Bk.Disk} {lv wv kv : Value} {xs : List Sl3} {ys : List (Int × Sl3)} (h : DiskR G w d lv wv kv xs ys) (hg : ∀ k, G k → G' k) : DiskR G' w d lv wv kv xs ys where
  last := h.last
  wait := h.wait
  keep := h.keep
  lastG := h.lastG.mono hg
  waitG := h.waitG.mono hg
  keepG := h.keepG.imp id fun h => h.mono hg
  xlen := h.xlen
  xeach i x b hx hl := ⟨(h.xeach i x b hx hl).1, (h.xeach i x b hx hl).2.mono hg⟩
  ylen := h.ylen
  yeach i x b hx hl := ⟨(h.yeach i x b hx hl).1, (h.yeach i x b hx hl).2.1, (h.yeach i x b hx hl).2.2.mono hg⟩
theorem RefAt.on {G : Nat → Prop} {w w' : World} {v : Value} {d : Bk.Disk} (h : RefAt G w v d) (hb : ∀ k, G k → w'.heap[k]? = w.heap[k]?) : RefAt G w' v d := by
  obtain ⟨lv, wv, kv, xs, ys, rfl, h⟩ := h
  exact ⟨lv, wv, kv, xs, ys, rfl, h.on hb⟩
theorem RefAt.mono {G G' : Nat → Prop} {w : World} {v : Value} {d : Bk.Disk} (h : RefAt G w v d) (hg : ∀ k, G k → G' k) : RefAt G' w v d := by
  obtain ⟨lv, wv, kv, xs, ys, rfl, h⟩ := h
  exact ⟨lv, wv, kv, xs, ys, rfl, h.mono hg⟩
theorem RefAt.below {G : Nat → Prop} {w w' : World} {v : Value} {d : Bk.Disk} (h : RefAt G w v d) (hG : Held G w) (hb : Below w.heap.size w w') : RefAt G w' v d := h.on fun k hk => hb.block k (hG k hk)
/-- what is there, and what is new -/
def More (G : Nat → Prop) (w w' : World) (k : Nat) : Prop := G k ∨ (w.heap.size ≤ k ∧ k < w'.heap.size)
theorem More.held {G : Nat → Prop} {w w' : World} (h : Held G w) (hs : w.heap.size ≤ w'.heap.size) : Held (More G w w') w' := fun k hk => by
  rcases hk with hk | hk
  · exact Nat.lt_of_lt_of_le (h k hk) hs
  · exact hk.2
end Go.Proofs.YtflbioiildndoaaDoor
