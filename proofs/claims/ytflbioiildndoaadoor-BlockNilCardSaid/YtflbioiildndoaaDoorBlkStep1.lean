/- the statements of disks: what a call of a disk, and of the document's, does (printed by wip/tools/gen_step04.py) -/
import Derived.Test.YtflbioiildndoaaDoorBlkLaw2
import Derived.Test.YtflbioiildndoaaDoorOpenBlk
namespace Go.Proofs.YtflbioiildndoaaDoor
open Go.RowKit
set_option linter.unusedVariables false
set_option linter.unusedSimpArgs false

/-- a call of a disk, as it comes in -/
structure BAct where
  kind : Int
  i : Int
  fill : UInt8
  short : Bool
  ka : Option Addr
  keep : List Bool
  kc : Nat
  torn : Int
  cut : Int
  mask : BitVec 32
def BAct.cells (a : BAct) : List Value := [.int .i64 a.kind, .int .i64 a.i, .int .u8 (a.fill.toNat : Int), .bool a.short, .slice a.ka a.keep.length a.kc, .int .i64 a.torn, .int .i64 a.cut, .int .u32 (a.mask.toNat : Int)]
def BAct.blk (a : BAct) : Bk.Blk := if a.short then (fillL a.fill).take 255 else fillL a.fill
/-- what a call makes of a disk, and what it tells -/
def stepT (d : Bk.Disk) (a : BAct) : Bk.Disk × Nat :=
  if a.kind = 0 then Bk.put d a.i a.blk else if a.kind = 1 then Bk.flush d else if a.kind = 2 then (Bk.crash d a.keep a.torn a.cut, 0)
  else if a.kind = 4 then Bk.arm d a.i a.keep a.torn a.cut else if a.kind = 5 then (Bk.on d, 0) else Bk.corrupt d a.i a.cut a.mask
theorem stepT_ok {n : Nat} {d : Bk.Disk} (h : Bk.Ok n d) (a : BAct) : Bk.Ok (n + 1) (stepT d a).1 := by
  unfold stepT
  split
  · exact h.put _ _
  · split
    · exact h.flush.mono (Nat.le_succ n)
    · split
      · exact (h.crash _ _ _).mono (Nat.zero_le _)
      · split
        · exact (h.arm _ _ _ _).mono (Nat.le_succ n)
        · split
          · exact h.on.mono (Nat.le_succ n)
          · exact (h.corrupt _ _ _).mono (Nat.le_succ n)
theorem BoxAt.eight {w : World} {r : Nat} {v0 v1 v2 v3 v4 v5 v6 v7 : Value} (h : BoxAt w r [v0, v1, v2, v3, v4, v5, v6, v7]) :
    w.cell? ⟨r, 0, none⟩ = some v0 ∧ w.cell? ⟨r, 1, none⟩ = some v1 ∧ w.cell? ⟨r, 2, none⟩ = some v2 ∧ w.cell? ⟨r, 3, none⟩ = some v3 ∧ w.cell? ⟨r, 4, none⟩ = some v4 ∧ w.cell? ⟨r, 5, none⟩ = some v5 ∧ w.cell? ⟨r, 6, none⟩ = some v6 ∧ w.cell? ⟨r, 7, none⟩ = some v7 :=
  ⟨h.at 0 _ rfl, h.at 1 _ rfl, h.at 2 _ rfl, h.at 3 _ rfl, h.at 4 _ rfl, h.at 5 _ rfl, h.at 6 _ rfl, h.at 7 _ rfl⟩
/-- a world behind w, in which all that was in w is as it was, but for what is of F -/
structure Far (w : World) (F : Nat → Prop) where
  world : World
  far : Beside F w world
instance Far.inhab (w : World) (F : Nat → Prop) : Nonempty (Far w F) := ⟨⟨w, Beside.refl _ _⟩⟩
theorem Beside.cell {F : Nat → Prop} {w w' : World} (hb : Beside F w w') {a : Addr} {v : Value} (h : w.cell? a = some v) (hr : ¬ F a.block) : w'.cell? a = some v := by
  have h1 := hb.block a.block (World.block_lt_of_cell? w a h) hr
  unfold World.cell? at h ⊢
  rw [h1]
  exact h
theorem Far.cell {w : World} {F : Nat → Prop} {a : Addr} {v : Value} (h : w.cell? a = some v) (hr : ¬ F a.block) (x : Far w F) : x.world.cell? a = some v := x.far.cell h hr
theorem FarC.of {w w' : World} {F : Nat → Prop} (h : Beside F w w') : ∃ x : Far w F, w' = x.world := ⟨⟨w', h⟩, rfl⟩
theorem BoxAt.beside {F : Nat → Prop} {w w' : World} {r : Nat} {vs : List Value} (h : BoxAt w r vs) (hb : Beside F w w') (hr : ¬ F r) : BoxAt w' r vs := h.on (hb.block r h.1 hr)
/-- what a step tells: the document's disk and the program's are one, in memory apart -/
def Stepped (F G : Nat → Prop) (w : World) (p : Nat) (d : Bk.Disk) (e : Ending) (w' : World) : Prop :=
  ∃ F' G' v', e = .returned (.tuple #[v', .bool true]) ∧ DiskAt F' w' p d ∧ RefAt G' w' v' d ∧ Beside F w w' ∧ Grows F w F' w' ∧ Grows G w G' w' ∧ ∀ k, G' k → ¬ F' k
theorem Beside.drew {F : Nat → Prop} {w w' : World} (h : Beside F w w') : Beside F w w'.drew := ⟨h.os, h.tape, h.output, h.size, h.block⟩
theorem Beside.drewR {F : Nat → Prop} {w w' : World} (h : Beside F w w') : Beside F w.drew w' := ⟨h.os, h.tape, h.output, h.size, h.block⟩
theorem DiskAt.drew {F : Nat → Prop} {w : World} {p : Nat} {d : Bk.Disk} (h : DiskAt F w p d) : DiskAt F w.drew p d := h.on fun _ _ => rfl
theorem RefAt.drew {G : Nat → Prop} {w : World} {v : Value} {d : Bk.Disk} (h : RefAt G w v d) : RefAt G w.drew v d := h.on fun _ _ => rfl
theorem Held.more {F : Nat → Prop} {w w' : World} (h : Held F w) (hs : w.heap.size ≤ w'.heap.size) : Held F w' := fun k hk => Nat.lt_of_lt_of_le (h k hk) hs
theorem Stepped.fin {F F4 G : Nat → Prop} {w w1 w2 V wr w' : World} {p zb : Nat} {E : Bk.Disk} {lv wv kv : Value} {xs : List Sl3} {ys : List (Int × Sl3)} (hd : DiskAt F4 wr p E) (h : DiskR (More G w1 w2) wr E lv wv kv xs ys) (hF : Held F w) (hG : Held G w) (hGF : ∀ k, G k → ¬ F k)
    (hg : ∀ k, F4 k → (F k ∨ V.heap.size ≤ k) ∧ k < wr.heap.size) (hbes : Beside F w wr) (hz : w.heap.size ≤ zb ∧ zb < w1.heap.size) (h12 : w1.heap.size ≤ w2.heap.size) (h2V : w2.heap.size ≤ V.heap.size) (hVr : V.heap.size ≤ wr.heap.size) (hgr : wr.grownBy w' (some zb)) :
    Stepped F G w p E (.returned (.tuple #[refD E lv wv kv, .bool true])) w' := by
  have hs := hgr.size
  have hFz : ∀ k, F4 k → k ≠ zb := fun k hk => by
    rcases (hg k hk).1 with h1 | h1
    · have := hF k h1; omega
    · omega
  have hGz : ∀ k, More G w1 w2 k → k ≠ zb ∧ k < w2.heap.size := fun k hk => by
    rcases hk with h1 | h1
    · have := hG k h1; omega
    · omega
  refine ⟨F4, More G w1 w2, _, rfl, hd.on fun k hk => hgr.block k (hg k hk).2 (by simpa using hFz k hk), ⟨_, _, _, _, _, rfl, h.on fun k hk => hgr.block k (by have := (hGz k hk).2; omega) (by simpa using (hGz k hk).1)⟩, ?_, fun k hk => ?_, fun k hk => ?_, fun k hk h4 => ?_⟩
  · exact ⟨hgr.os.trans hbes.os, hgr.tape.trans hbes.tape, hgr.output.trans hbes.output, by have := hbes.size; omega, fun k hk hn => by rw [hgr.block k (by have := hbes.size; omega) (by simp; omega), hbes.block k hk hn]⟩
  · obtain ⟨h1, h2⟩ := hg k hk
    refine ⟨?_, by omega⟩
    rcases h1 with h1 | h1
    · exact .inl h1
    · exact .inr (by omega)
  · refine ⟨?_, by have := (hGz k hk).2; omega⟩
    rcases hk with h1 | h1
    · exact .inl h1
    · exact .inr (by omega)
  · have hk2 := (hGz k hk).2
    rcases (hg k h4).1 with h1 | h1
    · rcases hk with h3 | h3
      · exact hGF k h3 h1
      · have := hF k h1; omega
    · omega
theorem drew11 {w X : World} {r : Nat} {vs : List Value} {row : Option Nat} (h : BoxAt X r vs ∧ w.grownBy X row) : BoxAt X.drew r vs ∧ w.grownBy X.drew row := ⟨h.1.on rfl, grown_drew h.2⟩
theorem q_name {Q : Exit → Act → World → Prop} {x : Exit} {a : Act} {w : World} (h : ∀ W, W = w → Q x a W) : Q x a w := h w rfl
theorem grown11 {w : World} {r : Nat} {a0 a1 a2 a3 a4 a5 a6 a7 a8 a9 a10 : Value} (v0 v1 v2 v3 v4 v5 v6 v7 v8 v9 v10 : Value) : w.grownBy (((((((((((w.setCell ⟨r, 0, none⟩ v0).setCell ⟨r, 1, none⟩ v1).setCell ⟨r, 2, none⟩ v2).setCell ⟨r, 3, none⟩ v3).setCell ⟨r, 4, none⟩ v4).setCell ⟨r, 5, none⟩ v5).setCell ⟨r, 6, none⟩ v6).setCell ⟨r, 7, none⟩ v7).setCell ⟨r, 8, none⟩ v8).setCell ⟨r, 9, none⟩ v9).setCell ⟨r, 10, none⟩ v10) (some r) := by
  repeat (first | refine grownBy_set ?_ _ _ | exact World.grownBy.refl _ _)
theorem refPut4_to {G : Nat → Prop} {w : World} {n : Nat} {d E : Bk.Disk} {k : Nat} {v : Value} (hr : RefAt G w v d) (ho : Bk.Ok n d) (hG : Held G w) (i : Int) (b : Bk.Blk) (hE : Bk.put d i b = (E, k)) (bv : Value) (hb : BytesAt w bv b) (hn : n ≤ 1000) :
    Calls Tryd.prog 78 #[v, .int .i64 i, bv] w fun e w' => GivesRC G w E k e w' ∧ Below w.heap.size w w' := by
  have := refPut4 hr ho hG i b bv hb hn
  rw [hE] at this
  exact this
theorem refFlush4_to {G : Nat → Prop} {w : World} {n : Nat} {d E : Bk.Disk} {k : Nat} {v : Value} (hr : RefAt G w v d) (ho : Bk.Ok n d) (hG : Held G w) (hE : Bk.flush d = (E, k)) :
    Calls Tryd.prog 23 #[v] w fun e w' => GivesRC G w E k e w' ∧ Below w.heap.size w w' := by
  have := refFlush4 hr ho hG
  rw [hE] at this
  exact this
theorem refArm4_to {G : Nat → Prop} {w : World} {d E : Bk.Disk} {k : Nat} {v : Value} (hr : RefAt G w v d) (hG : Held G w) (after which cut : Int) (keepV : Value) (keep : List Bool) (hk : RowAt eBool w keepV keep) (hkG : keep = [] ∨ InG G keepV) (hE : Bk.arm d after keep which cut = (E, k)) :
    Calls Tryd.prog 93 #[v, .int .i64 after, keepV, .int .i64 which, .int .i64 cut] w fun e w' => GivesRC G w E k e w' ∧ Below w.heap.size w w' := by
  have := refArm4 hr hG after which cut keepV keep hk hkG
  rw [hE] at this
  exact this
theorem refCorrupt4_to {G : Nat → Prop} {w : World} {n : Nat} {d E : Bk.Disk} {k : Nat} {v : Value} (hr : RefAt G w v d) (ho : Bk.Ok n d) (hG : Held G w) (i bit : Int) (mask : BitVec 32) (hE : Bk.corrupt d i bit mask = (E, k)) :
    Calls Tryd.prog 94 #[v, .int .i64 i, .int .i64 bit, .int .u32 (mask.toNat : Int)] w fun e w' => GivesRC G w E k e w' ∧ Below w.heap.size w w' := by
  have := refCorrupt4 hr ho hG i bit mask
  rw [hE] at this
  exact this
theorem refCrash4_to {G : Nat → Prop} {w : World} {n : Nat} {d E : Bk.Disk} {v : Value} (hr : RefAt G w v d) (ho : Bk.Ok n d) (hG : Held G w) (which cut : Int) (keepV : Value) (keep : List Bool) (hk : RowAt eBool w keepV keep) (hE : Bk.crash d keep which cut = E) :
    Calls Tryd.prog 79 #[v, keepV, .int .i64 which, .int .i64 cut] w fun e w' => GivesR G w E e w' ∧ Below w.heap.size w w' := by subst hE; exact refCrash4 hr ho hG which cut keepV keep hk
theorem refOn4_to {G : Nat → Prop} {w : World} {d E : Bk.Disk} {v : Value} (hr : RefAt G w v d) (hG : Held G w) (hE : Bk.on d = E) :
    Calls Tryd.prog 24 #[v] w fun e w' => GivesR G w E e w' ∧ Below w.heap.size w w' := by subst hE; exact refOn4 hr hG
theorem on_to {F : Nat → Prop} {w : World} {p : Nat} {d E : Bk.Disk} (hd : DiskAt F w p d) (hE : Bk.on d = E) :
    Calls Tryd.prog 22 #[.pointer (some ⟨p, 0, none⟩)] w fun e w' => (∃ v, e = .returned v) ∧ DiskAt F w' p E ∧ Beside F w w' := by subst hE; exact on_does hd

set_option maxRecDepth 100000 in
set_option maxHeartbeats 1000000 in
theorem step04_put {F G : Nat → Prop} {w : World} {p n : Nat} {d E : Bk.Disk} {k : Nat} {v : Value} (hd : DiskAt F w p d) (hr : RefAt G w v d) (hF : Held F w) (hG : Held G w) (hGF : ∀ k, G k → ¬ F k) (ho : Bk.Ok n d) (hn : n ≤ 999) (A : Nat → Addr) (hsF : ∀ w1, Beside F w w1 → Sents w1 A) (a : BAct) (hkp : RowAt eBool w (.slice a.ka a.keep.length a.kc) a.keep) (hkG : a.keep = [] ∨ InG G (.slice a.ka a.keep.length a.kc)) (hkl : a.keep.length ≤ 140737488355328) (hk : a.kind = 0) (hE : Bk.put d a.i a.blk = (E, k)) :
    Calls Tryd.prog 60 #[.pointer (some ⟨p, 0, none⟩), v, .agg a.cells.toArray] w (Stepped F G w p E) := by
  obtain ⟨kind, ai, fill, short, ka, keep, kc, torn, cut, mask⟩ := a
  simp only [BAct.cells] at *
  obtain ⟨lv, wv, kv, xs, ys, rfl, h⟩ := hr
  obtain ⟨la, lc, wa, wc, kaa, kcc, rfl, rfl, rfl⟩ := h.shape
  have H := Lib.hid h
  have HD := Lib.hid hd
  have HF := Lib.hid hF
  have HG := Lib.hid hG
  have HGF := Lib.hid hGF
  have HO := Lib.hid ho
  have HS := Lib.hid hsF
  have HKP := Lib.hid hkp
  have HKG := Lib.hid hkG
  have HKL := Lib.hid hkl
  have HE := Lib.hid hE
  have HN := Lib.hid hn
  subst hk
  obtain ⟨b, hb⟩ : ∃ b, (BAct.blk ⟨0, ai, fill, short, ka, keep, kc, torn, cut, mask⟩) = b := ⟨_, rfl⟩
  rw [hb] at hE
  clear HE
  have HE := Lib.hid hE
  have HBK := Lib.hid hb
  clear hb
  clear h hd hF hG hGF ho hsF hkp hkG hkl hE hn
  unfold refD
  go_enter Tryd.func60, Tryd.ntmps60
  go_upto_region 1 with fail
  refine wp_name fun W hW => ?_
  have HX := Lib.hid (show BoxAt W w.heap.size [.int .i64 (d.blocks : Int), .int .i64 (d.size : Int), .slice la xs.length lc, .slice wa ys.length wc, .bool d.lit, .int .i64 d.after, .int .i64 d.torn, .int .i64 d.cut, .slice kaa d.keep.length kcc, .bool d.off, .int .i64 d.count] by rw [hW]; exact ((BoxAt.new w [_, _, _, _, _, _, _, _, _, _, _] _).alloc _).alloc _)
  have HY := Lib.hid (show BoxAt W (w.heap.size + 1) [.int .i64 0, .int .i64 ai, .int .u8 (fill.toNat : Int), .bool short, .slice ka keep.length kc, .int .i64 torn, .int .i64 cut, .int .u32 (mask.toNat : Int)] by rw [hW]; exact (BoxAt.newAt _ _ (by simp) [_, _, _, _, _, _, _, _] _).alloc _)
  have HZ := Lib.hid (show BoxAt W (w.heap.size + 1 + 1) zeroD by rw [hW]; exact BoxAt.newAt _ _ (by simp) [_, _, _, _, _, _, _, _, _, _, _] _)
  have HB := Lib.hid (show Below w.heap.size w W by rw [hW]; go_grown)
  have hW3 : w.heap.size + 1 + 1 < W.heap.size := HZ.out.lt
  clear hW
  have HDW := Lib.hid (HD.out.below HF.out HB.out)
  have HRW := Lib.hid (show RefAt G W (.agg #[.int .i64 (d.blocks : Int), .int .i64 (d.size : Int), .slice la xs.length lc, .slice wa ys.length wc, .bool d.lit, .int .i64 d.after, .int .i64 d.torn, .int .i64 d.cut, .slice kaa d.keep.length kcc, .bool d.off, .int .i64 d.count]) d from (H.out.at).below HG.out HB.out)
  have HHW := Lib.hid (HG.out.more HB.out.size)
  have HFW := Lib.hid (HF.out.more HB.out.size)
  obtain ⟨x0, x1, x2, x3, x4, x5, x6, x7, x8, x9, x10⟩ := HX.out.eleven
  obtain ⟨m0, m1, m2, m3, m4, m5, m6, m7⟩ := HY.out.eight
  go_upto_region 4 with (go_at_call 56; (refine (fill04_any fill _).mono ?_); (rintro e w1 ⟨⟨g, gc, rfl, ho1⟩, hb1⟩); (have HO1 := Lib.hid ho1); (have HB1 := Lib.hid hb1); (clear ho1 hb1))
  have hgc : 256 ≤ gc := by
    rcases HO1.out.row with ⟨e, -⟩ | ⟨g', cap', e, -, -, h4, -⟩
    · simp at e
    · simp only [Value.slice.injEq] at e
      rw [fillL_length] at h4
      omega
  have HX1 := Lib.hid (HX.out.below HB1.out)
  have HY1 := Lib.hid (HY.out.below HB1.out)
  clear m0 m1 m2 m3 m4 m5 m6 m7 x0 x1 x2 x3 x4 x5 x6 x7 x8 x9 x10
  obtain ⟨x0, x1, x2, x3, x4, x5, x6, x7, x8, x9, x10⟩ := HX1.out.eleven
  obtain ⟨m0, m1, m2, m3, m4, m5, m6, m7⟩ := HY1.out.eight
  cases short with
  | false =>
    have hw1 : W.heap.size ≤ w1.heap.size := HB1.out.size
    have hgW : W.heap.size ≤ g ∧ g < w1.heap.size := HO1.out.lt g rfl
    have HBB := Lib.hid (show BytesAt w1 (.slice (some ⟨g, 0, none⟩) 256 gc) b by have := HO1.out.bytes; have hb := HBK.out; simp only [BAct.blk] at hb; rw [← hb]; exact this)
    go_upto_region 7 with (go_at_call 78; (refine (refPut4_to (HRW.out.below HHW.out HB1.out) HO.out (HHW.out.more HB1.out.size) ai b HE.out _ HBB.out (by have := HN.out; omega)).mono ?_); (rintro e w2 ⟨⟨v2, rfl, hr2⟩, hb2⟩); (obtain ⟨lv2, wv2, kv2, xs2, ys2, rfl, h2⟩ := hr2); (obtain ⟨la2, lc2, wa2, wc2, ka2, kc2, rfl, rfl, rfl⟩ := h2.shape); (have H2 := Lib.hid h2); (have HB2 := Lib.hid hb2); (have HX2 := Lib.hid (HX1.out.below hb2)); (have HY2 := Lib.hid (HY1.out.below hb2)); (clear h2 hb2 m0 m1 m2 m3 m4 m5 m6 m7 x0 x1 x2 x3 x4 x5 x6 x7 x8 x9 x10); (obtain ⟨x0, x1, x2, x3, x4, x5, x6, x7, x8, x9, x10⟩ := HX2.out.eleven); (obtain ⟨m0, m1, m2, m3, m4, m5, m6, m7⟩ := HY2.out.eight); (unfold refD))
    refine wp_name fun V hV => ?_
    obtain ⟨nb, hnb⟩ : ∃ nb, w2.heap.size = nb := ⟨_, rfl⟩
    have hvb : BoxAt V nb [.int .i64 (E.blocks : Int), .int .i64 (E.size : Int), .slice la2 xs2.length lc2, .slice wa2 ys2.length wc2, .bool E.lit, .int .i64 E.after, .int .i64 E.torn, .int .i64 E.cut, .slice ka2 E.keep.length kc2, .bool E.off, .int .i64 E.count] ∧ Below w2.heap.size w2 V := by
      rw [hV]
      exact ⟨BoxAt.newAt _ _ hnb [_, _, _, _, _, _, _, _, _, _, _] _, (Below.refl _ _).alloc (Nat.le_refl _) _⟩
    have HV9 := Lib.hid hvb.1
    have HBV := Lib.hid hvb.2
    have HYV := Lib.hid (HY2.out.below hvb.2)
    have hnb1 : w1.heap.size ≤ nb := by rw [← hnb]; exact HB2.out.size
    have hnbV : nb < V.heap.size := hvb.1.lt
    have HNBE := Lib.hid hnb.symm
    rw [hnb]
    have HB3 := Lib.hid (below_step (below_step HB1.out HB2.out) HBV.out)
    clear hV hvb hnb m0 m1 m2 m3 m4 m5 m6 m7 x0 x1 x2 x3 x4 x5 x6 x7 x8 x9 x10
    obtain ⟨m0, m1, m2, m3, m4, m5, m6, m7⟩ := HYV.out.eight
    have HDV := Lib.hid (HDW.out.below HFW.out HB3.out)
    have HFV := Lib.hid (HFW.out.more HB3.out.size)
    have HBWV := Lib.hid (HB.out.trans (HB3.out.mono HB.out.size))
    have HBBV := Lib.hid ((HBB.out.below HB2.out).below HBV.out)
    go_upto_region 8 with (go_at_call 33; (refine (write_to HDV.out HO.out (by have := HN.out; omega) HFV.out ai _ b HE.out HBBV.out A (fun wx hx => HS.out wx ((Beside.of_below HBWV.out).same hx))).mono ?_); (rintro e w4 ⟨F4, l4, v4, rfl, hE4, hd4, hb4, hg4⟩); (have HE4 := Lib.hid hE4); (have HD4 := Lib.hid hd4); (have HB4 := Lib.hid hb4); (have HG4 := Lib.hid hg4); (clear hE4 hd4 hb4 hg4))
    have hFlt : ∀ k, F k → k < w.heap.size := fun k hk => HF.out k hk
    have hWw : w.heap.size + 1 + 1 < W.heap.size := hW3
    have HV4 := Lib.hid (HV9.out.beside HB4.out (fun h => by have := hFlt nb h; omega))
    have HZ4 := Lib.hid (((HZ.out.below HB3.out)).beside HB4.out (fun h => by have := hFlt _ h; omega))
    have hgV : g < V.heap.size := by omega
    have HO4 := Lib.hid (show Own w4 W.heap.size (.slice (some ⟨g, 0, none⟩) 256 gc) (fillL fill) from (((HO1.out.below HB2.out (Nat.le_refl _)).below HBV.out (Nat.le_refl _))).on fun k hk => by
      obtain rfl : g = k := Option.some.inj hk
      exact HB4.out.block g hgV (fun h => by have := hFlt g h; omega))
    clear m0 m1 m2 m3 m4 m5 m6 m7
    go_wp2_with fail
    go_loopw [12] (fun i wr => ∃ j : Nat, j ≤ 256 ∧ i = .int .i64 (j : Int) ∧ ∃ l', l'.length = 256 ∧ Own wr W.heap.size (.slice (some ⟨g, 0, none⟩) 256 gc) l' ∧ w4.grownBy wr (some g)) (fun i _ => 256 - (intOf i).toNat)
    case atStart => exact ⟨0, by omega, rfl, fillL fill, fillL_length fill, HO4.out, World.grownBy.refl _ _⟩
    case round =>
      obtain ⟨j, hj, rfl, l', hl', ho', hgr⟩ := hrel
      have HO' := Lib.hid ho'
      have HGR := Lib.hid hgr
      have HL' := Lib.hid hl'
      clear ho' hgr hl'
      by_cases hlt : j < 256
      · obtain ⟨y, hy⟩ := getElem?_some_of_lt (show j < l'.length by have := HL'.out; omega)
        have hcell := HO'.out.cell HL'.out.symm hy
        have hfree := HO'.out.free HL'.out.symm j
        have hlt1 : (j : Int) < 256 := by omega
        have hj0 : (0 : Int) ≤ (j : Int) := by omega
        have HWR := Lib.hid (HO'.out.set (k := j) HL'.out.symm 238)
        clear hy
        go_wp2_with fail
        go_roundw
        case rel => exact ⟨j + 1, by omega, by go_num, _, by rw [List.length_set, HL'.out], HWR.out, grownBy_set HGR.out _ _⟩
        case measure => simp [intOf]; omega
      · have hge : (256 : Int) ≤ (j : Int) := by omega
        have hgnb : g < nb := by omega
        have HVR := Lib.hid (HV4.out.grownR HGR.out (by simp; omega))
        have HZR := Lib.hid (HZ4.out.grownR HGR.out (by simp; omega))
        have hb0 : Beside F w w4 := (Beside.of_below HBWV.out).same HB4.out
        have hbr : Beside F w wr := ⟨HGR.out.os.trans hb0.os, HGR.out.tape.trans hb0.tape, HGR.out.output.trans hb0.output, Nat.le_trans hb0.size HGR.out.size, fun q hq hnq => by rw [HGR.out.block q (Nat.lt_of_lt_of_le hq hb0.size) (by simp; omega), hb0.block q hq hnq]⟩
        have hs2 : nb = w2.heap.size := HNBE.out
        have hs4 : V.heap.size ≤ w4.heap.size := HB4.out.size
        have hsr : w4.heap.size ≤ wr.heap.size := HGR.out.size
        have hg4 : ∀ q, F4 q → (F q ∨ V.heap.size ≤ q) ∧ q < wr.heap.size := fun q hq => ⟨(HG4.out q hq).1, Nat.lt_of_lt_of_le (HG4.out q hq).2 hsr⟩
        have hdr : DiskAt F4 wr p E := HD4.out.on fun q hq => HGR.out.block q (HG4.out q hq).2 (by
          rcases (hg4 q hq).1 with h1 | h1
          · have := hFlt q h1; simp; omega
          · simp; omega)
        have h2r : DiskR (More G w1 w2) wr E (.slice la2 xs2.length lc2) (.slice wa2 ys2.length wc2) (.slice ka2 E.keep.length kc2) xs2 ys2 := H2.out.on fun q hq => by
          have hql : q < w2.heap.size ∧ ¬ F q ∧ q ≠ g := by
            rcases hq with h1 | h1
            · have := HG.out q h1; exact ⟨by omega, HGF.out q h1, by omega⟩
            · exact ⟨h1.2, fun hf => by have := hFlt q hf; omega, by omega⟩
          rw [HGR.out.block q (by omega) (by simpa using hql.2.2), HB4.out.block q (by omega) hql.2.1, HBV.out.block q hql.1]
        have HBR := Lib.hid hbr
        have HG4R := Lib.hid hg4
        have HDR := Lib.hid hdr
        have H2R := Lib.hid h2r
        have HSR := Lib.hid (HS.out wr hbr)
        have HER := Lib.hid ((HE4.out.grown HGR.out (fun q hq => by cases hq; omega)))
        clear hb0 hbr hg4 hdr h2r hs2
        obtain ⟨x0, x1, x2, x3, x4, x5, x6, x7, x8, x9, x10⟩ := HVR.out.eleven
        have q0 := Near.cell (w := wr.drew) (row := none) x0 (by simp)
        have q1 := Near.cell (w := wr.drew) (row := none) x1 (by simp)
        have q2 := Near.cell (w := wr.drew) (row := none) x2 (by simp)
        have q3 := Near.cell (w := wr.drew) (row := none) x3 (by simp)
        have q4 := Near.cell (w := wr.drew) (row := none) x4 (by simp)
        have q5 := Near.cell (w := wr.drew) (row := none) x5 (by simp)
        have q6 := Near.cell (w := wr.drew) (row := none) x6 (by simp)
        have q7 := Near.cell (w := wr.drew) (row := none) x7 (by simp)
        have q8 := Near.cell (w := wr.drew) (row := none) x8 (by simp)
        have q9 := Near.cell (w := wr.drew) (row := none) x9 (by simp)
        have q10 := Near.cell (w := wr.drew) (row := none) x10 (by simp)
        have hzd : BoxAt wr (w.heap.size + 1 + 1) zeroD := HZR.out
        obtain ⟨fz0, fz1, fz2, fz3, fz4, fz5, fz6, fz7, fz8, fz9, fz10⟩ := hzd.elevenF
        obtain ⟨z0, z1, z2, z3, z4, z5, z6, z7, z8, z9, z10⟩ := hzd.eleven
        clear hzd
        go_upto_region 12 with fail
        refine wp_region_mix (fun w' => ∃ x : Near wr.drew none, w' = x.world) [4] 6 (by kernel_rfl) rfl ?_
        refine mix_reads_lit [0, 1, 2] 3 (by kernel_rfl) (by kernel_rfl) (by kernel_rfl) (by kernel_rfl) rfl (NearC.of (World.grownBy.refl _ _)) ?_
        simp only [pick, List.filterMap_cons, List.filterMap_nil, List.getElem?_cons_succ, List.getElem?_cons_zero]
        repeat (first | go_big_quiet_step (fail) | quiet_step (fail))
        refine wpQuiet_nil ?_
        refine mix_deed_lit 3 2 (by kernel_rfl) (by kernel_rfl) rfl (fun K hK => ?_)
        simp only [comesUp, List.getElem?_cons_succ, List.getElem?_cons_zero]
        refine if_mk rfl ?_
        go_simp
        refine (tells04_any (w := wr.drew) (HSR.out.below (Below.refl _ _).drew) l4 k _ (HER.out.below (Below.refl _ _).drew) _ rfl).mono ?_
        rintro e w5 ⟨rfl, rfl⟩
        refine hK _ _ (fun _ _ => NearC.of (World.grownBy.refl _ _)) ?_
        clear hK K
        refine mix_deed_lit 4 1 (by kernel_rfl) (by kernel_rfl) rfl (fun K hK => ?_)
        simp only [comesUp, List.getElem?_cons_succ, List.getElem?_cons_zero]
        refine if_mk rfl ?_
        go_simp
        refine hK _ _ (fun h => by simp [keeps] at h) ?_
        clear hK K
        refine mix_flat_lit [5] 0 (by kernel_rfl) (by kernel_rfl) (by kernel_rfl) (by kernel_rfl) rfl ?_
        simp only [pick, List.filterMap_cons, List.filterMap_nil, List.getElem?_cons_succ, List.getElem?_cons_zero]
        repeat (first | go_big_quiet_step (fail) | quiet_step (fail))
        refine wpQuiet_nil ?_
        refine mix_done_lit (by kernel_rfl) ?_
        refine q_name fun U hU => ?_
        have hfu := fill11 HZR.out (.int .i64 (E.blocks : Int)) (.int .i64 (E.size : Int)) (.slice la2 xs2.length lc2) (.slice wa2 ys2.length wc2) (.bool E.lit) (.int .i64 E.after) (.int .i64 E.torn) (.int .i64 E.cut) (.slice ka2 E.keep.length kc2) (.bool E.off) (.int .i64 E.count)
        have hfv : BoxAt U (w.heap.size + 1 + 1) [.int .i64 (E.blocks : Int), .int .i64 (E.size : Int), .slice la2 xs2.length lc2, .slice wa2 ys2.length wc2, .bool E.lit, .int .i64 E.after, .int .i64 E.torn, .int .i64 E.cut, .slice ka2 E.keep.length kc2, .bool E.off, .int .i64 E.count] ∧ wr.grownBy U (some (w.heap.size + 1 + 1)) := by
          rw [hU]
          exact drew11 hfu
        have HZU := Lib.hid hfv.1
        have HGU := Lib.hid hfv.2
        clear hU hfu hfv x0 x1 x2 x3 x4 x5 x6 x7 x8 x9 x10 q0 q1 q2 q3 q4 q5 q6 q7 q8 q9 q10 fz0 fz1 fz2 fz3 fz4 fz5 fz6 fz7 fz8 fz9 fz10 z0 z1 z2 z3 z4 z5 z6 z7 z8 z9 z10
        obtain ⟨z0, z1, z2, z3, z4, z5, z6, z7, z8, z9, z10⟩ := HZU.out.eleven
        go_wp2_with fail
        refine bodyPost_ret (v := .tuple #[refD E (.slice la2 xs2.length lc2) (.slice wa2 ys2.length wc2) (.slice ka2 E.keep.length kc2), .bool true]) (by simp [results, Tryd.results60, go_sem, refD, z0, z1, z2, z3, z4, z5, z6, z7, z8, z9, z10]) rfl ?_
        exact Stepped.fin HDR.out H2R.out HF.out HG.out HGF.out HG4R.out HBR.out ⟨by omega, by omega⟩ HB2.out.size HBV.out.size (by omega) HGU.out
  | true =>
    have hgc1 : (255 : Int) ≤ (gc : Int) := by omega
    go_upto_region 6 with fail
    have hw1 : W.heap.size ≤ w1.heap.size := HB1.out.size
    have hgW : W.heap.size ≤ g ∧ g < w1.heap.size := HO1.out.lt g rfl
    have HBB := Lib.hid (show BytesAt w1 (.slice (some ⟨g, 0, none⟩) 255 gc) b by have := BytesAt.take (k := 255) HO1.out.bytes (by rw [fillL_length]; omega); have hb := HBK.out; simp only [BAct.blk] at hb; rw [← hb]; exact this)
    go_upto_region 7 with (go_at_call 78; (refine (refPut4_to (HRW.out.below HHW.out HB1.out) HO.out (HHW.out.more HB1.out.size) ai b HE.out _ HBB.out (by have := HN.out; omega)).mono ?_); (rintro e w2 ⟨⟨v2, rfl, hr2⟩, hb2⟩); (obtain ⟨lv2, wv2, kv2, xs2, ys2, rfl, h2⟩ := hr2); (obtain ⟨la2, lc2, wa2, wc2, ka2, kc2, rfl, rfl, rfl⟩ := h2.shape); (have H2 := Lib.hid h2); (have HB2 := Lib.hid hb2); (have HX2 := Lib.hid (HX1.out.below hb2)); (have HY2 := Lib.hid (HY1.out.below hb2)); (clear h2 hb2 m0 m1 m2 m3 m4 m5 m6 m7 x0 x1 x2 x3 x4 x5 x6 x7 x8 x9 x10); (obtain ⟨x0, x1, x2, x3, x4, x5, x6, x7, x8, x9, x10⟩ := HX2.out.eleven); (obtain ⟨m0, m1, m2, m3, m4, m5, m6, m7⟩ := HY2.out.eight); (unfold refD))
    refine wp_name fun V hV => ?_
    obtain ⟨nb, hnb⟩ : ∃ nb, w2.heap.size = nb := ⟨_, rfl⟩
    have hvb : BoxAt V nb [.int .i64 (E.blocks : Int), .int .i64 (E.size : Int), .slice la2 xs2.length lc2, .slice wa2 ys2.length wc2, .bool E.lit, .int .i64 E.after, .int .i64 E.torn, .int .i64 E.cut, .slice ka2 E.keep.length kc2, .bool E.off, .int .i64 E.count] ∧ Below w2.heap.size w2 V := by
      rw [hV]
      exact ⟨BoxAt.newAt _ _ hnb [_, _, _, _, _, _, _, _, _, _, _] _, (Below.refl _ _).alloc (Nat.le_refl _) _⟩
    have HV9 := Lib.hid hvb.1
    have HBV := Lib.hid hvb.2
    have HYV := Lib.hid (HY2.out.below hvb.2)
    have hnb1 : w1.heap.size ≤ nb := by rw [← hnb]; exact HB2.out.size
    have hnbV : nb < V.heap.size := hvb.1.lt
    have HNBE := Lib.hid hnb.symm
    rw [hnb]
    have HB3 := Lib.hid (below_step (below_step HB1.out HB2.out) HBV.out)
    clear hV hvb hnb m0 m1 m2 m3 m4 m5 m6 m7 x0 x1 x2 x3 x4 x5 x6 x7 x8 x9 x10
    obtain ⟨m0, m1, m2, m3, m4, m5, m6, m7⟩ := HYV.out.eight
    have HDV := Lib.hid (HDW.out.below HFW.out HB3.out)
    have HFV := Lib.hid (HFW.out.more HB3.out.size)
    have HBWV := Lib.hid (HB.out.trans (HB3.out.mono HB.out.size))
    have HBBV := Lib.hid ((HBB.out.below HB2.out).below HBV.out)
    go_upto_region 8 with (go_at_call 33; (refine (write_to HDV.out HO.out (by have := HN.out; omega) HFV.out ai _ b HE.out HBBV.out A (fun wx hx => HS.out wx ((Beside.of_below HBWV.out).same hx))).mono ?_); (rintro e w4 ⟨F4, l4, v4, rfl, hE4, hd4, hb4, hg4⟩); (have HE4 := Lib.hid hE4); (have HD4 := Lib.hid hd4); (have HB4 := Lib.hid hb4); (have HG4 := Lib.hid hg4); (clear hE4 hd4 hb4 hg4))
    have hFlt : ∀ k, F k → k < w.heap.size := fun k hk => HF.out k hk
    have hWw : w.heap.size + 1 + 1 < W.heap.size := hW3
    have HV4 := Lib.hid (HV9.out.beside HB4.out (fun h => by have := hFlt nb h; omega))
    have HZ4 := Lib.hid (((HZ.out.below HB3.out)).beside HB4.out (fun h => by have := hFlt _ h; omega))
    have hgV : g < V.heap.size := by omega
    have HO4 := Lib.hid (show Own w4 W.heap.size (.slice (some ⟨g, 0, none⟩) 256 gc) (fillL fill) from (((HO1.out.below HB2.out (Nat.le_refl _)).below HBV.out (Nat.le_refl _))).on fun k hk => by
      obtain rfl : g = k := Option.some.inj hk
      exact HB4.out.block g hgV (fun h => by have := hFlt g h; omega))
    clear m0 m1 m2 m3 m4 m5 m6 m7
    go_wp2_with fail
    go_loopw [12] (fun i wr => ∃ j : Nat, j ≤ 255 ∧ i = .int .i64 (j : Int) ∧ ∃ l', l'.length = 256 ∧ Own wr W.heap.size (.slice (some ⟨g, 0, none⟩) 256 gc) l' ∧ w4.grownBy wr (some g)) (fun i _ => 255 - (intOf i).toNat)
    case atStart => exact ⟨0, by omega, rfl, fillL fill, fillL_length fill, HO4.out, World.grownBy.refl _ _⟩
    case round =>
      obtain ⟨j, hj, rfl, l', hl', ho', hgr⟩ := hrel
      have HO' := Lib.hid ho'
      have HGR := Lib.hid hgr
      have HL' := Lib.hid hl'
      clear ho' hgr hl'
      by_cases hlt : j < 255
      · obtain ⟨y, hy⟩ := getElem?_some_of_lt (show j < l'.length by have := HL'.out; omega)
        have hcell := HO'.out.cell HL'.out.symm hy
        have hfree := HO'.out.free HL'.out.symm j
        have hlt1 : (j : Int) < 255 := by omega
        have hj0 : (0 : Int) ≤ (j : Int) := by omega
        have HWR := Lib.hid (HO'.out.set (k := j) HL'.out.symm 238)
        clear hy
        go_wp2_with fail
        go_roundw
        case rel => exact ⟨j + 1, by omega, by go_num, _, by rw [List.length_set, HL'.out], HWR.out, grownBy_set HGR.out _ _⟩
        case measure => simp [intOf]; omega
      · have hge : (255 : Int) ≤ (j : Int) := by omega
        have hgnb : g < nb := by omega
        have HVR := Lib.hid (HV4.out.grownR HGR.out (by simp; omega))
        have HZR := Lib.hid (HZ4.out.grownR HGR.out (by simp; omega))
        have hb0 : Beside F w w4 := (Beside.of_below HBWV.out).same HB4.out
        have hbr : Beside F w wr := ⟨HGR.out.os.trans hb0.os, HGR.out.tape.trans hb0.tape, HGR.out.output.trans hb0.output, Nat.le_trans hb0.size HGR.out.size, fun q hq hnq => by rw [HGR.out.block q (Nat.lt_of_lt_of_le hq hb0.size) (by simp; omega), hb0.block q hq hnq]⟩
        have hs2 : nb = w2.heap.size := HNBE.out
        have hs4 : V.heap.size ≤ w4.heap.size := HB4.out.size
        have hsr : w4.heap.size ≤ wr.heap.size := HGR.out.size
        have hg4 : ∀ q, F4 q → (F q ∨ V.heap.size ≤ q) ∧ q < wr.heap.size := fun q hq => ⟨(HG4.out q hq).1, Nat.lt_of_lt_of_le (HG4.out q hq).2 hsr⟩
        have hdr : DiskAt F4 wr p E := HD4.out.on fun q hq => HGR.out.block q (HG4.out q hq).2 (by
          rcases (hg4 q hq).1 with h1 | h1
          · have := hFlt q h1; simp; omega
          · simp; omega)
        have h2r : DiskR (More G w1 w2) wr E (.slice la2 xs2.length lc2) (.slice wa2 ys2.length wc2) (.slice ka2 E.keep.length kc2) xs2 ys2 := H2.out.on fun q hq => by
          have hql : q < w2.heap.size ∧ ¬ F q ∧ q ≠ g := by
            rcases hq with h1 | h1
            · have := HG.out q h1; exact ⟨by omega, HGF.out q h1, by omega⟩
            · exact ⟨h1.2, fun hf => by have := hFlt q hf; omega, by omega⟩
          rw [HGR.out.block q (by omega) (by simpa using hql.2.2), HB4.out.block q (by omega) hql.2.1, HBV.out.block q hql.1]
        have HBR := Lib.hid hbr
        have HG4R := Lib.hid hg4
        have HDR := Lib.hid hdr
        have H2R := Lib.hid h2r
        have HSR := Lib.hid (HS.out wr hbr)
        have HER := Lib.hid ((HE4.out.grown HGR.out (fun q hq => by cases hq; omega)))
        clear hb0 hbr hg4 hdr h2r hs2
        obtain ⟨x0, x1, x2, x3, x4, x5, x6, x7, x8, x9, x10⟩ := HVR.out.eleven
        have q0 := Near.cell (w := wr.drew) (row := none) x0 (by simp)
        have q1 := Near.cell (w := wr.drew) (row := none) x1 (by simp)
        have q2 := Near.cell (w := wr.drew) (row := none) x2 (by simp)
        have q3 := Near.cell (w := wr.drew) (row := none) x3 (by simp)
        have q4 := Near.cell (w := wr.drew) (row := none) x4 (by simp)
        have q5 := Near.cell (w := wr.drew) (row := none) x5 (by simp)
        have q6 := Near.cell (w := wr.drew) (row := none) x6 (by simp)
        have q7 := Near.cell (w := wr.drew) (row := none) x7 (by simp)
        have q8 := Near.cell (w := wr.drew) (row := none) x8 (by simp)
        have q9 := Near.cell (w := wr.drew) (row := none) x9 (by simp)
        have q10 := Near.cell (w := wr.drew) (row := none) x10 (by simp)
        have hzd : BoxAt wr (w.heap.size + 1 + 1) zeroD := HZR.out
        obtain ⟨fz0, fz1, fz2, fz3, fz4, fz5, fz6, fz7, fz8, fz9, fz10⟩ := hzd.elevenF
        obtain ⟨z0, z1, z2, z3, z4, z5, z6, z7, z8, z9, z10⟩ := hzd.eleven
        clear hzd
        go_upto_region 12 with fail
        refine wp_region_mix (fun w' => ∃ x : Near wr.drew none, w' = x.world) [4] 6 (by kernel_rfl) rfl ?_
        refine mix_reads_lit [0, 1, 2] 3 (by kernel_rfl) (by kernel_rfl) (by kernel_rfl) (by kernel_rfl) rfl (NearC.of (World.grownBy.refl _ _)) ?_
        simp only [pick, List.filterMap_cons, List.filterMap_nil, List.getElem?_cons_succ, List.getElem?_cons_zero]
        repeat (first | go_big_quiet_step (fail) | quiet_step (fail))
        refine wpQuiet_nil ?_
        refine mix_deed_lit 3 2 (by kernel_rfl) (by kernel_rfl) rfl (fun K hK => ?_)
        simp only [comesUp, List.getElem?_cons_succ, List.getElem?_cons_zero]
        refine if_mk rfl ?_
        go_simp
        refine (tells04_any (w := wr.drew) (HSR.out.below (Below.refl _ _).drew) l4 k _ (HER.out.below (Below.refl _ _).drew) _ rfl).mono ?_
        rintro e w5 ⟨rfl, rfl⟩
        refine hK _ _ (fun _ _ => NearC.of (World.grownBy.refl _ _)) ?_
        clear hK K
        refine mix_deed_lit 4 1 (by kernel_rfl) (by kernel_rfl) rfl (fun K hK => ?_)
        simp only [comesUp, List.getElem?_cons_succ, List.getElem?_cons_zero]
        refine if_mk rfl ?_
        go_simp
        refine hK _ _ (fun h => by simp [keeps] at h) ?_
        clear hK K
        refine mix_flat_lit [5] 0 (by kernel_rfl) (by kernel_rfl) (by kernel_rfl) (by kernel_rfl) rfl ?_
        simp only [pick, List.filterMap_cons, List.filterMap_nil, List.getElem?_cons_succ, List.getElem?_cons_zero]
        repeat (first | go_big_quiet_step (fail) | quiet_step (fail))
        refine wpQuiet_nil ?_
        refine mix_done_lit (by kernel_rfl) ?_
        refine q_name fun U hU => ?_
        have hfu := fill11 HZR.out (.int .i64 (E.blocks : Int)) (.int .i64 (E.size : Int)) (.slice la2 xs2.length lc2) (.slice wa2 ys2.length wc2) (.bool E.lit) (.int .i64 E.after) (.int .i64 E.torn) (.int .i64 E.cut) (.slice ka2 E.keep.length kc2) (.bool E.off) (.int .i64 E.count)
        have hfv : BoxAt U (w.heap.size + 1 + 1) [.int .i64 (E.blocks : Int), .int .i64 (E.size : Int), .slice la2 xs2.length lc2, .slice wa2 ys2.length wc2, .bool E.lit, .int .i64 E.after, .int .i64 E.torn, .int .i64 E.cut, .slice ka2 E.keep.length kc2, .bool E.off, .int .i64 E.count] ∧ wr.grownBy U (some (w.heap.size + 1 + 1)) := by
          rw [hU]
          exact drew11 hfu
        have HZU := Lib.hid hfv.1
        have HGU := Lib.hid hfv.2
        clear hU hfu hfv x0 x1 x2 x3 x4 x5 x6 x7 x8 x9 x10 q0 q1 q2 q3 q4 q5 q6 q7 q8 q9 q10 fz0 fz1 fz2 fz3 fz4 fz5 fz6 fz7 fz8 fz9 fz10 z0 z1 z2 z3 z4 z5 z6 z7 z8 z9 z10
        obtain ⟨z0, z1, z2, z3, z4, z5, z6, z7, z8, z9, z10⟩ := HZU.out.eleven
        go_wp2_with fail
        refine bodyPost_ret (v := .tuple #[refD E (.slice la2 xs2.length lc2) (.slice wa2 ys2.length wc2) (.slice ka2 E.keep.length kc2), .bool true]) (by simp [results, Tryd.results60, go_sem, refD, z0, z1, z2, z3, z4, z5, z6, z7, z8, z9, z10]) rfl ?_
        exact Stepped.fin HDR.out H2R.out HF.out HG.out HGF.out HG4R.out HBR.out ⟨by omega, by omega⟩ HB2.out.size HBV.out.size (by omega) HGU.out

end Go.Proofs.YtflbioiildndoaaDoor
