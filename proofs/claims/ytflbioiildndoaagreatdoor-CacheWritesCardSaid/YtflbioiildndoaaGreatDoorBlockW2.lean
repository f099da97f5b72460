/- merged: Block6, Block7, Block8, Block9, Block10, BlkTo -/
import Derived.Test.YtflbioiildndoaaGreatDoorBlockW1
/- block: Crash, Flush -/
namespace Go.Proofs.YtflbioiildndoaaGreatDoor
open Go.RowKit
set_option linter.unusedVariables false
set_option linter.unusedSimpArgs false

/-- what a call of a disk does that hands back an error, or none -/
def Does (F : Nat → Prop) (w : World) (A : Nat → Addr) (p : Nat) (d : Bk.Disk) (k : Nat) (e : Ending) (w' : World) : Prop :=
  ∃ F' l v, e = .returned v ∧ ErrIs w' A w.heap.size l k v ∧ DiskAt F' w' p d ∧ Beside F w w' ∧ Grows F w F' w'
/-! ### Flush -/
def FlushI (w : World) (s : Nat) (lv : Value) (gs : List (Nat × Nat)) (hs : List (Int × Nat × Nat)) (k : Nat) (wr : World) : Prop :=
  OwnR (eBk s) wr 0 lv (gsK hs gs k) ∧ w.grownBy wr lv.ownBlock
theorem FlushI.next {w wr : World} {s lg c n : Nat} {gs : List (Nat × Nat)} {hs : List (Int × Nat × Nat)} {k : Nat} (h : FlushI w s (.slice (some ⟨lg, 0, none⟩) n c) gs hs k wr) (hn : n = gs.length) {x : Int × Nat × Nat} (hx : hs[k]? = some x) (hi : x.1.toNat < gs.length) :
    FlushI w s (.slice (some ⟨lg, 0, none⟩) n c) gs hs (k + 1) (wr.setCell ⟨lg, x.1.toNat, none⟩ (.slice (some ⟨x.2.1, 0, none⟩) s x.2.2)) := by
  obtain ⟨h1, h2⟩ := h
  obtain ⟨y, hy⟩ := getElem?_some_of_lt (l := gsK hs gs k) (k := x.1.toNat) (by rw [gsK_length]; exact hi)
  have h3 := OwnR.set (eBk_ok s) h1 hy (j := 0) (y := x.2) (u := .slice (some ⟨x.2.1, 0, none⟩) s x.2.2) (show 0 < 1 by decide) rfl
  simp only [Nat.mul_one, Nat.add_zero] at h3
  refine ⟨?_, grownBy_set h2 _ _⟩
  rw [gsK_succ hx]
  exact h3
theorem FlushI.below {w wr wr' : World} {s : Nat} {lv : Value} {gs : List (Nat × Nat)} {hs : List (Int × Nat × Nat)} {k : Nat} (h : FlushI w s lv gs hs k wr) (hb : Below wr.heap.size wr wr') : FlushI w s lv gs hs k wr' :=
  ⟨h.1.below hb (Nat.le_refl _), grown_trans h.2 (grown_of_below hb (Nat.le_refl _) _)⟩
theorem Does.weak {F : Nat → Prop} {w w1 w' : World} {A : Nat → Addr} {p k : Nat} {d : Bk.Disk} {l : List Int} {v : Value} (hF : Held F w) (hd : DiskAt F w1 p d) (hb : Beside F w w1) (he : Below w1.heap.size w1 w') (hE : ErrIs w' A w1.heap.size l k v) : Does F w A p d k (.returned v) w' :=
  ⟨F, l, v, rfl, hE.mono hb.size, hd.below (fun i hi => Nat.lt_of_lt_of_le (hF i hi) hb.size) he, hb.same (Beside.of_below he), Grows.refl hF (Nat.le_trans hb.size he.size)⟩
end Go.Proofs.YtflbioiildndoaaGreatDoor

/- block: On, Arm, Write -/
namespace Go.Proofs.YtflbioiildndoaaGreatDoor
open Go.RowKit
set_option linter.unusedVariables false
set_option linter.unusedSimpArgs false

theorem heap_set_ne {w : World} {p k j : Nat} {u : Value} (h : p ≠ k) : (w.setCell ⟨p, j, none⟩ u).heap[k]? = w.heap[k]? := Below.heap_setCell _ _ _ _ (fun e => h e.symm)
theorem Grows.more {F : Nat → Prop} {w w' : World} (h : Held F w) (hs : w.heap.size ≤ w'.heap.size) : Grows F w (More F w w') w' := fun k hk => by
  rcases hk with hk | hk
  · exact ⟨.inl hk, Nat.lt_of_lt_of_le (h k hk) hs⟩
  · exact ⟨.inr hk.1, hk.2⟩
theorem on_does {F : Nat → Prop} {w : World} {p : Nat} {d : Bk.Disk} (hd : DiskAt F w p d) :
    Calls Tryz.prog 10 #[.pointer (some ⟨p, 0, none⟩)] w fun e w' => (∃ v, e = .returned v) ∧ DiskAt F w' p (Bk.on d) ∧ Beside F w w' := by
  obtain ⟨lv, wv, kv, gs, hs, hp⟩ := hd
  obtain ⟨f0, -, f2, f3, f4, f5, f6, f7, f8, f9, -⟩ := hp.box.elevenF
  obtain ⟨m0, -, m2, m3, m4, m5, m6, m7, m8, m9, -⟩ := hp.box.eleven
  have HP := Lib.hid hp
  clear hp
  go_enter Tryz.func10, Tryz.ntmps10
  go_wp2_with fail
  go_returns
  have h6 := (((((HP.out.box.put 9 (.bool false)).put 4 (.bool false)).put 5 (.int .i64 0)).put 6 (.int .i64 0)).put 7 (.int .i64 0)).put 8 (.slice none 0 0)
  have e6 : ((((((cellsD d lv wv kv).set 9 (.bool false)).set 4 (.bool false)).set 5 (.int .i64 0)).set 6 (.int .i64 0)).set 7 (.int .i64 0)).set 8 (.slice none 0 0) = cellsD (Bk.on d) lv wv (.slice none 0 0) := by
    simp [cellsD, Bk.on]
  rw [e6] at h6
  refine ⟨⟨_, rfl⟩, ⟨_, _, _, _, _, HP.out.newKeep (d' := Bk.on d) ?_ h6 rfl rfl rfl (OwnR.nil _ _ _) (fun k hk => by cases hk)⟩, Beside.of_grown ?_ (HP.out.inF _ mem_p)⟩
  all_goals repeat (first | refine grownBy_set ?_ _ _ | exact World.grownBy.refl _ _)
theorem on_nothing (w : World) :
    Calls Tryz.prog 10 #[.pointer none] w fun e w' => (∃ v, e = .returned v) ∧ w = w' := by
  go_enter Tryz.func10, Tryz.ntmps10
  go_wp2_with fail
  go_returns
  exact ⟨⟨_, rfl⟩, rfl⟩
/-! ### Arm -/
theorem arm_nil {S : Nat → Prop} [Has S 1] [Has S 2] [Has S 7] (after which cut : Int) (keepV : Value) (w : World) (A : Nat → Addr) (hs : SentsOn S w A) :
    Calls Tryz.prog 72 #[.pointer none, .int .i64 after, keepV, .int .i64 which, .int .i64 cut] w fun e w' => IsFault A w.heap.size [-1] 7 e w' ∧ Below w.heap.size w w' := by
  have g2 : w.cell? ⟨0, 0, none⟩ = some (.iface 176 (.pointer (some (A 7)))) := hs.cell 7 (by decide) (by decide)
  have HE := Lib.hid (sent_err (w := w) (A := A) (B := w.heap.size) 7 (by decide) (by decide))
  clear hs
  go_enter Tryz.func72, Tryz.ntmps72
  go_wp2_with (go_at_call 41; refine (faultNew_any _ 7 _ _ A w.heap.size HE.out (by decide) (Nat.le_refl _)).mono ?_; rintro e w' ⟨⟨v, rfl, hv⟩, hb⟩)
  go_ret
  exact ⟨⟨_, rfl, hv⟩, hb⟩
theorem arm_neg {S : Nat → Prop} [Has S 1] [Has S 2] [Has S 7] {F : Nat → Prop} {w : World} {p : Nat} {d : Bk.Disk} (hd : DiskAt F w p d) (hF : Held F w) (after which cut : Int) (ha : after < 0) (keepV : Value) (A : Nat → Addr) (hs : SentsOn S w A) :
    Calls Tryz.prog 72 #[.pointer (some ⟨p, 0, none⟩), .int .i64 after, keepV, .int .i64 which, .int .i64 cut] w (Does F w A p d 2) := by
  have g2 : w.cell? ⟨1, 0, none⟩ = some (.iface 176 (.pointer (some (A 2)))) := hs.cell 2 (by decide) (by decide)
  have HE := Lib.hid (sent_err (w := w) (A := A) (B := w.heap.size) 2 (by decide) (by decide))
  have HD := Lib.hid hd
  have HF := Lib.hid hF
  clear hs hd hF
  go_enter Tryz.func72, Tryz.ntmps72
  go_wp2_with (go_at_call 41; refine (faultNew_any _ 2 _ _ A w.heap.size HE.out (by decide) (Nat.le_refl _)).mono ?_; rintro e w' ⟨⟨v, rfl, hv⟩, hb⟩)
  go_ret
  exact Does.weak HF.out HD.out (Beside.refl _ _) hb hv
set_option maxRecDepth 100000 in
theorem arm_ok {F : Nat → Prop} {w : World} {p : Nat} {d : Bk.Disk} (hd : DiskAt F w p d) (hF : Held F w) (after which cut : Int) (ha : 0 ≤ after) (keepV : Value) (keep : List Bool) (hk : RowAt eBool w keepV keep) (hkl : keep.length ≤ 140737488355328) (A : Nat → Addr) :
    Calls Tryz.prog 72 #[.pointer (some ⟨p, 0, none⟩), .int .i64 after, keepV, .int .i64 which, .int .i64 cut] w (Does F w A p (Bk.arm d after keep which cut).1 0) := by
  obtain ⟨lv, wv, kv, gs, hs, hp⟩ := hd
  obtain ⟨f0, -, f2, f3, f4, f5, f6, f7, f8, f9, -⟩ := hp.box.elevenF
  obtain ⟨m0, -, m2, m3, m4, m5, m6, m7, m8, m9, -⟩ := hp.box.eleven
  have hplt := hp.box.lt
  have HP := Lib.hid hp
  have HF := Lib.hid hF
  have HK := Lib.hid hk
  have HKL := Lib.hid hkl
  clear hp hF hk hkl
  go_enter Tryz.func72, Tryz.ntmps72
  go_wp2_with (at_builtin; refine wpList_append_near eBool eBool_ok rfl (.tmp 23) (.tmp 24) rfl w.heap.size _ [] rfl (OwnR.empty w _ (Nat.le_refl _)) _ keep rfl (HK.out.alloc _) (by have := HKL.out; simp; omega) (by have := HKL.out; simp; omega) (by simp) ?_)
  intro v1 w1 ho1 hg1 hn1
  clear hn1
  have hg0 : w.grownBy w1 (some w.heap.size) := grown_trans (grown_alloc _ _ _) (by simpa [Value.ownBlock] using hg1)
  have hgp : w.grownBy w1 (some p) := ⟨hg0.os, hg0.tape, hg0.output, hg0.size, fun k hk _ => hg0.block k hk (by simp; omega)⟩
  have hbx := HP.out.box.grownR hg0 (by simp; omega)
  obtain ⟨a1, c1, rfl, -, -⟩ := ho1.slice
  clear f0 f2 f3 f4 f5 f6 f7 f8 f9 m0 m2 m3 m4 m5 m6 m7 m8 m9
  obtain ⟨f0, -, f2, f3, f4, f5, f6, f7, f8, f9, -⟩ := hbx.elevenF
  obtain ⟨m0, -, m2, m3, m4, m5, m6, m7, m8, m9, -⟩ := hbx.eleven
  have HO1 := Lib.hid ho1
  have HBX := Lib.hid hbx
  have HGP := Lib.hid hgp
  have hsz := hgp.size
  have hsz0 := hg1.size
  simp at hsz0
  clear ho1 hbx hgp hg0 hg1
  go_wp2_with fail
  go_ret
  have h6 := ((((HBX.out.put 4 (.bool true)).put 5 (.int .i64 after)).put 6 (.int .i64 which)).put 7 (.int .i64 cut)).put 8 (.slice a1 keep.length c1)
  have e6 : (((((cellsD d lv wv kv).set 4 (.bool true)).set 5 (.int .i64 after)).set 6 (.int .i64 which)).set 7 (.int .i64 cut)).set 8 (.slice a1 keep.length c1) = cellsD (Bk.arm d after keep which cut).1 lv wv (.slice a1 keep.length c1) := by
    unfold Bk.arm
    rw [if_neg (by omega)]
    simp [cellsD]
  rw [e6] at h6
  have e1 : (Bk.arm d after keep which cut).1 = { d with lit := true, after := after, torn := which, cut := cut, keep := keep } := by unfold Bk.arm; rw [if_neg (by omega)]
  have hG : w.grownBy (((((w1.setCell ⟨p, 4, none⟩ (.bool true)).setCell ⟨p, 5, none⟩ (.int .i64 after)).setCell ⟨p, 6, none⟩ (.int .i64 which)).setCell ⟨p, 7, none⟩ (.int .i64 cut)).setCell ⟨p, 8, none⟩ (.slice a1 keep.length c1)) (some p) := by
    repeat (first | refine grownBy_set ?_ _ _ | exact HGP.out)
  have hlt : ∀ k, (Value.slice a1 keep.length c1).ownBlock = some k → w.heap.size ≤ k ∧ k < w1.heap.size := fun k hk => HO1.out.lt k hk
  refine ⟨More F w w1, [], _, rfl, ErrIs.nil _ _ _, ⟨_, _, _, _, _, (HP.out.mono (F' := More F w w1) fun k hk => .inl hk).newKeep (d' := (Bk.arm d after keep which cut).1) hG h6 (by rw [e1]) (by rw [e1]) (by rw [e1]) (by
    rw [e1]
    refine (HO1.out.mono (Nat.zero_le _)).on fun k hk => ?_
    have := hlt k hk
    have hne : p ≠ k := by omega
    rw [heap_set_ne hne, heap_set_ne hne, heap_set_ne hne, heap_set_ne hne, heap_set_ne hne]) (fun k hk => ⟨(hlt k hk).1, .inr (hlt k hk)⟩)⟩, Beside.of_grown hG (HP.out.inF _ mem_p), ?_⟩
  have := Grows.more HF.out (w' := w1) hsz
  intro k hk
  have := this k hk
  simpa using this
end Go.Proofs.YtflbioiildndoaaGreatDoor

/- block: Write -/
namespace Go.Proofs.YtflbioiildndoaaGreatDoor
open Go.RowKit
set_option linter.unusedVariables false
set_option linter.unusedSimpArgs false

theorem write_err {F : Nat → Prop} {w : World} {p : Nat} {d : Bk.Disk} (hd : DiskAt F w p d) (hF : Held F w) (i : Int) (bv : Value) (k : Nat) (l : List Int) (hk : k ≠ 0) (A : Nat → Addr)
    (hc : ∀ (op : ByteArray) (w1 : World), w1 = w → Calls Tryz.prog 44 #[.pointer (some ⟨p, 0, none⟩), .string op, .int .i64 i] w1 fun e w' => IsFault A w.heap.size l k e w' ∧ Below w.heap.size w w') :
    Calls Tryz.prog 26 #[.pointer (some ⟨p, 0, none⟩), .int .i64 i, bv] w (Does F w A p d k) := by
  have HC := Lib.hid hc
  have HD := Lib.hid hd
  have HF := Lib.hid hF
  clear hc hd hF
  go_enter Tryz.func26, Tryz.ntmps26
  go_wp2_with (go_at_call 44; refine (HC.out _ _ rfl).mono ?_; rintro e w' ⟨⟨v, rfl, hv⟩, hb⟩; obtain ⟨tv, xv, rfl⟩ := hv.iface hk)
  go_ret
  exact Does.weak HF.out HD.out (Beside.refl _ _) hb hv
theorem write_nil {S : Nat → Prop} [Has S 1] [Has S 2] [Has S 7] (i : Int) (bv : Value) (w : World) (A : Nat → Addr) (hs : SentsOn S w A) :
    Calls Tryz.prog 26 #[.pointer none, .int .i64 i, bv] w fun e w' => IsFault A w.heap.size [-1] 7 e w' ∧ Below w.heap.size w w' := by
  have HS := Lib.hid hs
  clear hs
  go_enter Tryz.func26, Tryz.ntmps26
  go_wp2_with (go_at_call 44; refine (on_nil _ i _ A HS.out).mono ?_; rintro e w' ⟨⟨v, rfl, hv⟩, hb⟩; obtain ⟨tv, xv, rfl⟩ := hv.iface (by decide))
  go_ret
  exact ⟨⟨_, rfl, hv⟩, hb⟩
theorem write_form {S : Nat → Prop} [Has S 1] [Has S 2] [Has S 7] {F : Nat → Prop} {w : World} {p : Nat} {d : Bk.Disk} (hd : DiskAt F w p d) (hF : Held F w) (i : Int) (h1 : 0 ≤ i) (h2 : i < d.blocks) (hoff : d.off = false) (bv : Value) (b : List UInt8) (hb : BytesAt w bv b) (hl : b.length ≠ d.size) (A : Nat → Addr) (hs : SentsOn S w A) :
    Calls Tryz.prog 26 #[.pointer (some ⟨p, 0, none⟩), .int .i64 i, bv] w (Does F w A p d 1) := by
  have HD := Lib.hid hd
  obtain ⟨lv, wv, kv, gs, hs0, hp⟩ := hd
  obtain ⟨m0, m1, -, -, -, -, -, -, -, m9, -⟩ := hp.box.eleven
  obtain ⟨a, c, rfl, -, -, -⟩ := hb
  rw [hoff] at m9
  have g2 : w.cell? ⟨2, 0, none⟩ = some (.iface 176 (.pointer (some (A 1)))) := hs.cell 1 (by decide) (by decide)
  have HE := Lib.hid (sent_err (w := w) (A := A) (B := w.heap.size) 1 (by decide) (by decide))
  have HF := Lib.hid hF
  have e1 : ((b.length : Int) != (d.size : Int)) = true := by simp; omega
  clear hs hp hF hoff hl
  go_enter Tryz.func26, Tryz.ntmps26
  go_wp2_with (first
    | (go_at_call 44; (refine (on_ok p _ i _ _ m0 h1 h2 m9).mono ?_); (rintro e w1 ⟨rfl, rfl⟩))
    | (go_at_call 47; refine (faultAt_any _ _ [] 1 _ _ A w.heap.size HE.out (by decide) (Nat.le_refl _)).mono ?_; rintro e w' ⟨⟨v, rfl, hv⟩, hb⟩))
  go_ret
  exact Does.weak HF.out HD.out (Beside.refl _ _) hb hv
/-- a write more waits -/
def waits (d : Bk.Disk) (i : Nat) (b : Bk.Blk) : Bk.Disk := { d with waiting := d.waiting ++ [(i, b)] }
set_option maxRecDepth 100000 in
set_option maxHeartbeats 1000000 in
theorem write_in {S : Nat → Prop} [Has S 1] [Has S 2] [Has S 7] {F : Nat → Prop} {w : World} {p n : Nat} {d : Bk.Disk} (hd : DiskAt F w p d) (ho : Bk.Ok n d) (hn : n ≤ 1000000) (hF : Held F w) (i : Nat) (h2 : i < d.blocks) (hoff : d.off = false) (bv : Value) (b : List UInt8) (hb : BytesAt w bv b) (hl : b.length = d.size) (A : Nat → Addr) (hsF : ∀ w1, Beside F w w1 → SentsOn S w1 A) :
    Calls Tryz.prog 26 #[.pointer (some ⟨p, 0, none⟩), .int .i64 (i : Int), bv] w (Does F w A p (Bk.burns (waits d i b)).1 (Bk.burns (waits d i b)).2) := by
  obtain ⟨lv, wv, kv, gs, hs, hp⟩ := hd
  obtain ⟨ba, bc, rfl, -, -, -⟩ := id hb
  obtain ⟨m0, m1, m2, m3, -, -, -, -, -, m9, -⟩ := hp.box.eleven
  rw [hoff] at m9
  have f3 := hp.box.free 3 _ rfl
  have hsz := ho.s
  have hmany := ho.many
  have HP := Lib.hid hp
  have HOK := Lib.hid ho
  have HF := Lib.hid hF
  have HB := Lib.hid hb
  have HS := Lib.hid hsF
  have HL := Lib.hid hl
  have hlen : b.length ≤ 100000000 := by omega
  have hi0 : (0 : Int) ≤ (i : Int) := by omega
  have hi1 : (i : Int) < (d.blocks : Int) := by omega
  have e1 : ((b.length : Int) != (d.size : Int)) = false := by simp; omega
  have hwl : hs.length ≤ 1000000 := by rw [hp.hlen]; omega
  have hplt := hp.box.lt
  have hwp : some p ≠ wv.ownBlock := fun e => (List.nodup_cons.1 hp.nodup).1 (List.mem_append_right _ (List.mem_append_left _ (by rw [← e]; simp)))
  have HW := Lib.hid hwp
  clear hp ho hF hb hsF hl hoff hwp
  go_enter Tryz.func26, Tryz.ntmps26
  go_upto_region 6 with (go_at_call 44; (refine (on_ok p _ (i : Int) _ _ m0 hi0 hi1 m9).mono ?_); (rintro e w1 ⟨rfl, rfl⟩))
  have n3 := Near.cell (w := w.drew) (row := wv.ownBlock) m3 (by have := HW.out; exact fun e => this e.symm)
  refine wp_region_mix (fun w' => ∃ x : Near w.drew wv.ownBlock, w' = x.world) [13] 14 (by kernel_rfl) rfl ?_
  refine mix_reads_lit [0, 1, 2, 3, 4, 5, 6] 7 (by kernel_rfl) (by kernel_rfl) (by kernel_rfl) (by kernel_rfl) rfl (NearC.of (World.grownBy.refl _ _)) ?_
  simp only [pick, List.filterMap_cons, List.filterMap_nil, List.getElem?_cons_succ, List.getElem?_cons_zero]
  repeat (first | go_big_quiet_step (fail) | quiet_step (fail))
  refine wpQuiet_nil ?_
  refine mix_deed_lit 7 6 (by kernel_rfl) (by kernel_rfl) rfl (fun K hK => ?_)
  simp only [comesUp, List.getElem?_cons_succ, List.getElem?_cons_zero]
  refine if_mk rfl ?_
  go_simp
  refine (cloned_any _ b _ (HB.out.below (Below.refl _ _).drew) hlen).mono ?_
  rintro e w1 ⟨⟨rfl, hob⟩, hb1⟩
  have gb1 : w.drew.grownBy w1 wv.ownBlock := grown_of_below hb1 (Nat.le_refl _) _
  have HOB := Lib.hid hob
  have hlt1 : w.heap.size < w1.heap.size := (hob.lt _ rfl).2
  refine hK _ _ (fun _ _ => NearC.of gb1) ?_
  clear hK K hob
  refine mix_reads_lit [8] 5 (by kernel_rfl) (by kernel_rfl) (by kernel_rfl) (by kernel_rfl) rfl (NearC.of gb1) ?_
  simp only [pick, List.filterMap_cons, List.filterMap_nil, List.getElem?_cons_succ, List.getElem?_cons_zero]
  repeat (first | go_big_quiet_step (fail) | quiet_step (fail))
  refine wpQuiet_nil ?_
  refine mix_deed_lit 9 4 (by kernel_rfl) (by kernel_rfl) rfl (fun K hK => ?_)
  simp only [comesUp, List.getElem?_cons_succ, List.getElem?_cons_zero]
  refine if_mk rfl ?_
  go_simp
  have gb2 : w.drew.grownBy (w1.alloc (.cells #[.int .i64 (i : Int), .slice (some ⟨w.heap.size, 0, none⟩) b.length b.length] 102)) wv.ownBlock := grown_trans gb1 (grown_alloc _ _ _)
  refine hK _ _ (fun _ _ => NearC.of gb2) ?_
  clear hK K
  have hwt : OwnR (eWk b.length) w 0 wv hs := by rw [HL.out]; exact HP.out.wait
  have HWT := Lib.hid (((hwt.drew).below hb1 (Nat.le_refl _)).alloc (.cells #[.int .i64 (i : Int), .slice (some ⟨w.heap.size, 0, none⟩) b.length b.length] 102))
  have HGB := Lib.hid gb2
  have HB1 := Lib.hid hb1
  clear hwt gb1 gb2 hb1
  refine mix_deed_lit 10 3 (by kernel_rfl) (by kernel_rfl) rfl (fun K hK => ?_)
  simp only [comesUp, List.getElem?_cons_succ, List.getElem?_cons_zero]
  refine if_mk rfl ?_
  refine step_append_near (eWk b.length) (eWk_ok _) (.tmp 29) (.tmp 34) rfl 0 wv hs rfl HWT.out [((i : Int), w.heap.size, b.length)] (RowAt.one (E := eWk b.length) w1 ((i : Int), w.heap.size, b.length) #[.int .i64 (i : Int), .slice (some ⟨w.heap.size, 0, none⟩) b.length b.length] 102 rfl w1.heap.size rfl) (by simp; omega) (by simp; omega) (Nat.zero_le _) ?_
  intro v3 w3 ho3 hg3 hn3
  obtain ⟨a3, c3, rfl, -, -⟩ := ho3.slice
  have gb3 := grown_trans HGB.out hg3
  have hbx : BoxAt w3 p (cellsD d lv wv kv) := (show BoxAt w.drew p (cellsD d lv wv kv) from HP.out.drew.box).grownR gb3 (fun e => HW.out e.symm)
  refine hK _ _ (fun _ _ => NearC.of gb3) ?_
  clear hK K
  refine mix_reads_lit [11, 12] 1 (by kernel_rfl) (by kernel_rfl) (by kernel_rfl) (by kernel_rfl) rfl (NearC.of gb3) ?_
  simp only [pick, List.filterMap_cons, List.filterMap_nil, List.getElem?_cons_succ, List.getElem?_cons_zero]
  repeat (first | go_big_quiet_step (fail) | quiet_step (fail))
  refine wpQuiet_nil ?_
  have q3 := hbx.at 3 wv rfl
  have r3 := hbx.free 3 wv rfl
  have HBX := Lib.hid hbx
  have HO3 := Lib.hid ho3
  have HG3 := Lib.hid gb3
  have HN3 := Lib.hid hn3
  have HGL := Lib.hid hg3
  have hs3 := hg3.size
  have hs1 := HB1.out.size
  clear hbx ho3 hg3 hn3 gb3
  refine mix_deed_lit 13 0 (by kernel_rfl) (by kernel_rfl) rfl (fun K hK => ?_)
  simp only [comesUp, List.getElem?_cons_succ, List.getElem?_cons_zero]
  refine if_mk rfl ?_
  go_simp
  refine hK _ _ (fun h => by simp [keeps] at h) ?_
  clear hK K
  refine mix_done_lit (by kernel_rfl) ?_
  go_upto_region 7 with fail
  refine wp_name fun V hV => ?_
  have hVb : ∀ k, k ≠ p → V.heap[k]? = w3.heap[k]? := fun k hk => by rw [hV]; exact heap_set_ne (fun e => hk e.symm)
  have hVs : V.heap.size = w3.heap.size := by rw [hV]; simp
  have hbxV : BoxAt V p (cellsD (waits d i b) lv (.slice a3 (hs.length + 1) c3) kv) := by rw [hV]; exact HBX.out.put 3 _
  have hVo : V.os = w.os ∧ V.tape = w.tape ∧ V.output = w.output := by rw [hV]; exact ⟨HG3.out.os, HG3.out.tape, HG3.out.output⟩
  clear hV
  have hs1' : w.heap.size ≤ w1.heap.size := hs1
  have hs3' : w1.heap.size + 1 ≤ w3.heap.size := by simpa using hs3
  clear hs1 hs3
  have HWL := Lib.hid (fun k (hk : wv.ownBlock = some k) => (HP.out.wait.lt k hk).2)
  have hbs : b.length = d.size := HL.out
  have hown : Own V 0 (.slice (some ⟨w.heap.size, 0, none⟩) b.length b.length) b := by
    refine (HOB.out.mono (Nat.zero_le _)).on fun k hk => ?_
    obtain rfl : w.heap.size = k := Option.some.inj hk
    rw [hVb _ (by omega), HGL.out.block _ (by simp; omega) (fun e => by have := HWL.out _ e.symm; omega), Below.heap_alloc _ _ _ hlt1]
  have hnear : ∀ k, (Value.slice a3 (hs.length + 1) c3).ownBlock = some k → wv.ownBlock = some k ∨ w1.heap.size + 1 ≤ k := by
    intro k hk
    have hk' : (Value.slice a3 (hs ++ [((i : Int), w.heap.size, b.length)]).length c3).ownBlock = some k := by simpa using hk
    rcases HN3.out with h | h
    · exact .inl (h.symm.trans hk')
    · exact .inr (by simpa using h k hk')
  have hnear2 : (Value.slice a3 (hs.length + 1) c3).ownBlock = wv.ownBlock ∨ ∀ k, (Value.slice a3 (hs.length + 1) c3).ownBlock = some k → w.heap.size ≤ k := by
    rcases HN3.out with h | h
    · exact .inl (by simpa using h)
    · exact .inr fun k hk => by
        have hk' : (Value.slice a3 (hs ++ [((i : Int), w.heap.size, b.length)]).length c3).ownBlock = some k := by simpa using hk
        have := h k hk'
        simp at this
        omega
  have hwaitV : OwnR (eWk d.size) V 0 (.slice a3 (hs.length + 1) c3) (hs ++ [((i : Int), w.heap.size, b.length)]) := by
    have h := HO3.out
    rw [hbs] at h
    simp only [List.length_append, List.length_cons, List.length_nil, Nat.zero_add] at h
    rw [hbs]
    refine h.on fun k hk => hVb k fun e => ?_
    rcases hnear k hk with h | h
    · exact HW.out (by rw [h, e])
    · omega
  have hbes : Beside F w V := by
    refine ⟨hVo.1, hVo.2.1, hVo.2.2, by omega, fun k hk hnF => ?_⟩
    rw [hVb k (fun e => hnF (e ▸ HP.out.inF _ mem_p)), HG3.out.block k hk (fun e => hnF (HP.out.inF _ (mem_wv e.symm)))]
    rfl
  have hdisk : DiskAt (More F w V) V p (waits d i b) := by
    rw [hbs] at hown hwaitV
    exact ⟨_, _, _, _, _, HP.out.addWait (F' := More F w V) (d' := waits d i b) (i := i) (g := (w.heap.size, d.size)) (b := b)
      (fun k hk h1 h2 => by rw [hVb k h1, HG3.out.block k hk (fun e => h2 e.symm)]; rfl) hbxV rfl rfl rfl rfl hwaitV hnear2 hown (Nat.le_refl _)
      (fun e => by
        rcases hnear _ e with h | h
        · have := HWL.out _ h; omega
        · omega)
      (fun k hk => .inl hk) (.inr ⟨Nat.le_refl _, by omega⟩)
      (fun k hk => by
        have hlt := (hwaitV.lt k hk).2
        rcases hnear2 with h | h
        · exact .inl (HP.out.inF _ (mem_wv (h ▸ hk)))
        · exact .inr ⟨h k hk, hlt⟩)⟩
  have hok : Bk.Ok (n + 1) (waits d i b) := HOK.out.wait1 h2 HL.out
  have hgr := Grows.more HF.out (w' := V) (by omega)
  have HDK := Lib.hid hdisk
  have HOK2 := Lib.hid hok
  have HGR := Lib.hid hgr
  have HBS := Lib.hid hbes
  clear hdisk hok hgr hbes hwaitV hnear hnear2 hown hbxV hVb hVs hVo hbs q3 r3 m0 m1 m2 m3 m9 f3 hs1' hs3' e1
  by_cases hbl : Bk.blows (waits d i b)
  · have HBL := Lib.hid hbl
    have hbz : Bk.burns (waits d i b) = (Bk.blown (waits d i b), 7) := by unfold Bk.burns; rw [if_pos hbl]
    have HBZ := Lib.hid hbz
    clear hbl hbz
    go_upto_region 8 with (go_at_call 48; (refine (burns_blow HDK.out HOK2.out HBL.out).mono ?_); (rintro e w5 ⟨rfl, hd5, hb5⟩))
    have hb6 : Beside F w w5 := HBS.out.trans HGR.out hb5
    have g2 : w5.cell? ⟨0, 0, none⟩ = some (.iface 176 (.pointer (some (A 7)))) := (HS.out w5 hb6).cell 7 (by decide) (by decide)
    have HE := Lib.hid (sent_err (w := w5) (A := A) (B := w5.heap.size) 7 (by decide) (by decide))
    have HD5 := Lib.hid hd5
    have HB5 := Lib.hid hb5
    have HB6 := Lib.hid hb6
    clear hd5 hb5 hb6
    go_wp2_with (go_at_call 47; refine (faultAt_any _ _ [] 7 _ _ A w5.heap.size HE.out (by decide) (Nat.le_refl _)).mono ?_; rintro e w' ⟨⟨v, rfl, hv⟩, hb⟩)
    go_ret
    rw [HBZ.out]
    have hG5 : Grows F w (More F w V) w5 := fun k hk => ⟨(HGR.out k hk).1, Nat.lt_of_lt_of_le (HGR.out k hk).2 HB5.out.size⟩
    refine ⟨More F w V, _, v, rfl, hv.mono HB6.out.size, HD5.out.below hG5.held hb, HB6.out.same (Beside.of_below hb), fun k hk => ⟨(hG5 k hk).1, Nat.lt_of_lt_of_le (hG5 k hk).2 hb.size⟩⟩
  · have HBL := Lib.hid hbl
    have hbz : Bk.burns (waits d i b) = (Bk.ticked (waits d i b), 0) := by unfold Bk.burns; rw [if_neg hbl]
    have HBZ := Lib.hid hbz
    clear hbl hbz
    go_wp2_with (go_at_call 48; (refine (burns_tick HDK.out HOK2.out HBL.out).mono ?_); (rintro e w5 ⟨rfl, hd5, hb5⟩))
    go_ret
    rw [HBZ.out]
    exact ⟨More F w V, [], _, rfl, ErrIs.nil _ _ _, hd5, HBS.out.trans HGR.out hb5, fun k hk => ⟨(HGR.out k hk).1, Nat.lt_of_lt_of_le (HGR.out k hk).2 hb5.size⟩⟩
theorem put_out {d : Bk.Disk} {i : Int} {b : Bk.Blk} (h : i < 0 ∨ (d.blocks : Int) ≤ i) : Bk.put d i b = (d, 2) := by
  unfold Bk.put
  rw [if_neg (by unfold Bk.In; omega)]
theorem put_in {d : Bk.Disk} {i : Nat} {b : Bk.Blk} (h : i < d.blocks) : Bk.put d (i : Int) b = if d.off = true then (d, 7) else if b.length = d.size then Bk.burns (waits d i b) else (d, 1) := by
  unfold Bk.put
  rw [if_pos (by unfold Bk.In; omega)]
  rfl
theorem write_does {S : Nat → Prop} [Has S 1] [Has S 2] [Has S 7] {F : Nat → Prop} {w : World} {p n : Nat} {d : Bk.Disk} (hd : DiskAt F w p d) (ho : Bk.Ok n d) (hn : n ≤ 1000000) (hF : Held F w) (i : Int) (bv : Value) (b : List UInt8) (hb : BytesAt w bv b) (A : Nat → Addr) (hsF : ∀ w1, Beside F w w1 → SentsOn S w1 A) :
    Calls Tryz.prog 26 #[.pointer (some ⟨p, 0, none⟩), .int .i64 i, bv] w (Does F w A p (Bk.put d i b).1 (Bk.put d i b).2) := by
  have hs := hsF w (Beside.refl _ _)
  by_cases h : i < 0 ∨ (d.blocks : Int) ≤ i
  · rw [put_out h]
    obtain ⟨lv, wv, kv, gs, hs0, hp⟩ := id hd
    exact write_err hd hF i bv 2 [max i (-1)] (by decide) A fun op w1 e => by subst e; exact on_out p op i _ _ hp.box.eleven.1 h A hs
  · obtain ⟨k, rfl⟩ : ∃ k : Nat, i = (k : Int) := ⟨i.toNat, by omega⟩
    have hk : k < d.blocks := by omega
    rw [put_in hk]
    cases hoff : d.off with
    | true =>
      rw [if_pos rfl]
      obtain ⟨lv, wv, kv, gs, hs0, hp⟩ := id hd
      refine write_err hd hF k bv 7 [max (k : Int) (-1)] (by decide) A fun op w1 e => ?_
      subst e
      refine on_off p op k _ _ hp.box.eleven.1 (by omega) (by omega) ?_ A hs
      rw [hp.box.at 9 (.bool d.off) rfl, hoff]
    | false =>
      rw [if_neg (by simp)]
      by_cases hl : b.length = d.size
      · rw [if_pos hl]
        exact write_in hd ho hn hF k hk hoff bv b hb hl A hsF
      · rw [if_neg hl]
        exact write_form hd hF k (by omega) (by omega) hoff bv b hb hl A hs
theorem arm_does {S : Nat → Prop} [Has S 1] [Has S 2] [Has S 7] {F : Nat → Prop} {w : World} {p : Nat} {d : Bk.Disk} (hd : DiskAt F w p d) (hF : Held F w) (after which cut : Int) (keepV : Value) (keep : List Bool) (hk : RowAt eBool w keepV keep) (hkl : keep.length ≤ 140737488355328) (A : Nat → Addr) (hs : SentsOn S w A) :
    Calls Tryz.prog 72 #[.pointer (some ⟨p, 0, none⟩), .int .i64 after, keepV, .int .i64 which, .int .i64 cut] w (Does F w A p (Bk.arm d after keep which cut).1 (Bk.arm d after keep which cut).2) := by
  by_cases ha : after < 0
  · unfold Bk.arm
    rw [if_pos ha]
    exact arm_neg hd hF after which cut ha keepV A hs
  · have e : (Bk.arm d after keep which cut).2 = 0 := by unfold Bk.arm; rw [if_neg ha]
    rw [e]
    exact arm_ok hd hF after which cut (by omega) keepV keep hk hkl A
end Go.Proofs.YtflbioiildndoaaGreatDoor

/- block: Corrupt -/
namespace Go.Proofs.YtflbioiildndoaaGreatDoor
open Go.RowKit
set_option linter.unusedVariables false
set_option linter.unusedSimpArgs false

theorem corrupt_spell (x : UInt8) (mask : BitVec 32) (k r : Nat) (hr : r < 8) :
    bits .xor .u8 (x.toNat : Int) (IntKind.u8.wrap (IntKind.u8.wrap (bits .and .u32 ((mask.toNat : Int) / 2 ^ k) 1) * 2 ^ r)) = (((if mask.getLsbD k = true then x ^^^ UInt8.ofNat (2 ^ r) else x) : UInt8).toNat : Int) := by
  have e0 : (mask.toNat : Int) / 2 ^ k = ((mask >>> k).toNat : Int) := by
    rw [BitVec.toNat_ushiftRight, Nat.shiftRight_eq_div_pow]; simp
  have e1 : bits .and .u32 ((mask.toNat : Int) / 2 ^ k) 1 = (((mask.toNat / 2 ^ k) % 2 : Nat) : Int) := by
    rw [e0]
    have := bits_and_u32 (mask >>> k) 1#32
    rw [show (((1#32 : BitVec 32).toNat : Nat) : Int) = 1 from rfl] at this
    rw [this, BitVec.toNat_and, BitVec.toNat_ushiftRight, Nat.shiftRight_eq_div_pow]
    rw [show (1#32 : BitVec 32).toNat = 1 from rfl, Nat.and_one_is_mod]
  have e2 : mask.getLsbD k = decide (mask.toNat / 2 ^ k % 2 = 1) := by rw [BitVec.getLsbD, Nat.testBit_eq_decide_div_mod_eq]
  rw [e1]
  have hlt : mask.toNat / 2 ^ k % 2 < 2 := Nat.mod_lt _ (by decide)
  generalize mask.toNat / 2 ^ k % 2 = m at *
  rcases (show m = 0 ∨ m = 1 by omega) with rfl | rfl
  · rw [e2]
    have := bits_xor_u8 x 0
    simpa [IntKind.wrap_u8] using this
  · rw [e2]
    have hp : (2 : Int) ^ r % 256 = (2 : Int) ^ r := by
      have : 2 ^ r < 256 := Nat.pow_lt_pow_right (by decide) hr
      have e : (2 : Int) ^ r = ((2 ^ r : Nat) : Int) := by simp
      rw [e]; exact Int.emod_eq_of_lt (Int.natCast_nonneg _) (by have h := Int.ofNat_lt.2 this; exact h)
    have := flip_spell x r
    rw [hp] at this
    simpa [IntKind.wrap_u8, hp] using this
def corK (d : Bk.Disk) (i bit : Nat) (mask : BitVec 32) (k : Nat) : Bk.Disk := { d with lasting := d.lasting.set i (changed (Bk.lastB d i) bit mask k) }
theorem corK_ok {n : Nat} {d : Bk.Disk} (h : Bk.Ok n d) {i : Nat} (hi : i < d.blocks) (bit : Nat) (mask : BitVec 32) (k : Nat) : Bk.Ok n (corK d i bit mask k) := by
  have hr := h.row.set i (x := changed (Bk.lastB d i) bit mask k) (by rw [changed_length]; exact (h.lastB hi).1)
  exact ⟨h.b, h.s, hr.1, hr.2, h.wait, h.many⟩
theorem corK_last {n : Nat} {d : Bk.Disk} (h : Bk.Ok n d) {i : Nat} (hi : i < d.blocks) (bit : Nat) (mask : BitVec 32) (k : Nat) : Bk.lastB (corK d i bit mask k) i = changed (Bk.lastB d i) bit mask k := by
  unfold corK Bk.lastB
  simp only
  rw [List.getD_eq_getElem?_getD, List.getElem?_set, if_pos rfl, if_pos (by rw [h.len]; exact hi)]
  rfl
theorem corK_zero {n : Nat} {d : Bk.Disk} (h : Bk.Ok n d) {i : Nat} (hi : i < d.blocks) (bit : Nat) (mask : BitVec 32) : corK d i bit mask 0 = d := by
  unfold corK
  rw [changed, Bk.set_same (h.lastB hi).2]
def CorI (F : Nat → Prop) (w : World) (p : Nat) (d : Bk.Disk) (i bit : Nat) (mask : BitVec 32) (lv wv kv : Value) (gs : List (Nat × Nat)) (hs : List (Int × Nat × Nat)) (k : Nat) (wr : World) : Prop :=
  DiskP F wr p (corK d i bit mask k) lv wv kv gs hs ∧ Beside F w wr
theorem CorI.next {F : Nat → Prop} {w wr wr' : World} {p : Nat} {d : Bk.Disk} {i bit : Nat} {mask : BitVec 32} {lv wv kv : Value} {gs : List (Nat × Nat)} {hs : List (Int × Nat × Nat)} {k : Nat} (h : CorI F w p d i bit mask lv wv kv gs hs k wr) {g : Nat × Nat} (hgi : gs[i]? = some g) (hg : wr.grownBy wr' (some g.1))
    (hb : Own wr' 0 (.slice (some ⟨g.1, 0, none⟩) d.size g.2) (changed (Bk.lastB d i) bit mask (k + 1))) : CorI F w p d i bit mask lv wv kv gs hs (k + 1) wr' := by
  refine ⟨?_, h.2.same (Beside.of_grown hg (h.1.inF _ (mem_gs hgi)))⟩
  have := h.1.setLast hgi hg hb
  unfold corK at this ⊢
  simp only [List.set_set] at this
  exact this
theorem CorI.skip {F : Nat → Prop} {w wr : World} {p : Nat} {d : Bk.Disk} {i bit : Nat} {mask : BitVec 32} {lv wv kv : Value} {gs : List (Nat × Nat)} {hs : List (Int × Nat × Nat)} {k : Nat} (h : CorI F w p d i bit mask lv wv kv gs hs k wr) (e : changed (Bk.lastB d i) bit mask k = changed (Bk.lastB d i) bit mask (k + 1)) : CorI F w p d i bit mask lv wv kv gs hs (k + 1) wr := by
  refine ⟨?_, h.2⟩
  have := h.1
  unfold corK at this ⊢
  rw [← e]
  exact this
end Go.Proofs.YtflbioiildndoaaGreatDoor

/- block: New -/
namespace Go.Proofs.YtflbioiildndoaaGreatDoor
open Go.RowKit
set_option linter.unusedVariables false
set_option linter.unusedSimpArgs false

theorem step_make_bytes {o : Oper} {a : Act} {w : World} {K : Act → World → Prop} {Q : Exit → Act → World → Prop} (l c : Operand) (hop : o.op = Op.makeSlice 53 l c)
    (n : Nat) (hl : a.eval l = .int .i64 (n : Int)) (hc : a.eval c = .int .i64 (n : Int)) (hb : n ≤ 140737488355328)
    (h : ∀ w', Own w' w.heap.size (.slice (some ⟨w.heap.size, 0, none⟩) n n) (List.replicate n 0) → w.grownBy w' none → K (a.put o.dst (.slice (some ⟨w.heap.size, 0, none⟩) n n)) w') : o.wp Tryz.prog a w K Q := by
  obtain ⟨i0, hi, hz0, hz1, hz2⟩ := info_parts Tryz.infoByte
  obtain ⟨w', hrun, r1, r2⟩ := run_make_full (P := Tryz.prog) w w.heap.size 53 5 i0 (.int .u8 0) 1 Tryz.underlying53 hi hz0 hz1 .i64 .i64 n (by rw [hz2]; omega) (by unfold maxLen; omega) (Nat.le_refl _)
  unfold Oper.wp
  simp [execOp, hop, hl, hc, hrun, Result.andThen]
  refine h w' ?_ r2
  unfold Own
  have e : (madeCells (Value.cells (.int .u8 0)) (n * 1)).toList = bytesV (List.replicate n 0) := by
    show (madeCells #[Value.int .u8 0] (n * 1)).toList = _
    rw [toList_madeCells_one]
    simp [bytesV]
  rw [e] at r1
  rw [List.length_replicate]
  exact r1
theorem new_bad4 (b s : Int) (h : rightG b s = false) (w : World) (A : Nat → Addr) (hs : Sents w A) :
    Calls Tryz.prog 24 #[.agg #[.int .i64 b, .int .i64 s]] w fun e w' => (∃ E, e = .returned (.tuple #[.pointer none, E]) ∧ ErrIs w' A w.heap.size [-1] 2 E) ∧ Below w.heap.size w w' := by
  have HH := Lib.hid h
  have HS := Lib.hid hs
  clear h hs
  go_enter Tryz.func24, Tryz.ntmps24
  go_upto_region 2 with (go_at_call 46; (refine (blockRight_is b s false HH.out _).mono ?_); (rintro e w1 ⟨rfl, hb1⟩))
  have hbw := ((Below.refl w.heap.size w).alloc (Nat.le_refl _) (.cells #[.int .i64 b, .int .i64 s] 29)).trans (hb1.mono (by simp))
  have hs1 := HS.out.below hbw
  have g2 : w1.cell? ⟨1, 0, none⟩ = some (.iface 176 (.pointer (some (A 2)))) := hs1.cell 2 (by decide) (by decide)
  have HE := Lib.hid (sent_err (w := w1) (A := A) (B := w1.heap.size) 2 (by decide) (by decide))
  have HB1 := Lib.hid hbw
  clear hb1 hbw hs1
  go_wp2_with (go_at_call 41; refine (faultNew_any _ 2 _ _ A w1.heap.size HE.out (by decide) (Nat.le_refl _)).mono ?_; rintro e w' ⟨⟨v, rfl, hv⟩, hb⟩)
  go_ret2
  exact ⟨⟨_, rfl, hv.mono HB1.out.size⟩, below_step HB1.out hb⟩
/-- a new disk, all of it in new memory -/
def GivesD (w : World) (b s : Nat) (e : Ending) (w' : World) : Prop := ∃ p, e = .returned (.tuple #[.pointer (some ⟨p, 0, none⟩), .nilIface]) ∧ DiskAt (fun k => w.heap.size ≤ k ∧ k < w'.heap.size) w' p (Bk.new b s)
set_option maxRecDepth 100000 in
theorem new_ok4 (b s : Nat) (hb : 8 ≤ b ∧ b ≤ 256) (hs : 256 ≤ s ∧ s ≤ 1024) (w : World) :
    Calls Tryz.prog 24 #[.agg #[.int .i64 (b : Int), .int .i64 (s : Int)]] w fun e w' => GivesD w b s e w' ∧ Below w.heap.size w w' := by
  have HH := Lib.hid (rightG_iff.2 (show 8 ≤ (b : Int) ∧ (b : Int) ≤ 256 ∧ 256 ≤ (s : Int) ∧ (s : Int) ≤ 1024 by omega))
  go_enter Tryz.func24, Tryz.ntmps24
  go_upto_region 3 with (go_at_call 46; (refine (blockRight_is _ _ true HH.out _).mono ?_); (rintro e w1 ⟨rfl, hb1⟩))
  have hx1 := (BoxAt.new w [.int .i64 (b : Int), .int .i64 (s : Int)] 29).below hb1
  have hbw := ((Below.refl w.heap.size w).alloc (Nat.le_refl _) (.cells #[.int .i64 (b : Int), .int .i64 (s : Int)] 29)).trans (hb1.mono (by simp))
  have hsz1 := hb1.size
  simp at hsz1
  obtain ⟨x0, x1⟩ := hx1.two
  have HX := Lib.hid hx1
  have HB := Lib.hid hbw
  clear hb1 hbw hx1
  go_upto_region 4 with fail
  refine wp_name fun W hW => ?_
  obtain ⟨p, hp⟩ : ∃ p, w1.heap.size = p := ⟨_, rfl⟩
  have hN : NewP w W p b s 0 (.slice none 0 0) [] := by
    refine ⟨?_, OwnR.nil _ _ _, rfl, fun i g hg => (by cases hg), by simp [Value.ownBlock], by omega, by rw [hW]; exact HB.out.alloc HB.out.size _⟩
    rw [hW]
    exact BoxAt.newAt _ _ hp [_, _, _, _, _, _, _, _, _, _, _] _
  have hgx : BoxAt W w.heap.size [.int .i64 (b : Int), .int .i64 (s : Int)] := by rw [hW]; exact HX.out.alloc _
  have HN := Lib.hid hN
  have HGX := Lib.hid hgx
  have hpw : w.heap.size + 1 ≤ p := by omega
  rw [hp]
  clear hW hN hgx x0 x1 hp hsz1
  obtain ⟨y0, y1⟩ := HGX.out.two
  go_wp2_with fail
  go_loopw [15] (fun x wr => ∃ k : Nat, k ≤ b ∧ x = .int .i64 (k : Int) ∧ (∃ lv gs, NewP w wr p b s k lv gs) ∧ BoxAt wr w.heap.size [.int .i64 (b : Int), .int .i64 (s : Int)]) (fun x _ => b - (intOf x).toNat)
  case atStart => exact ⟨0, Nat.zero_le _, rfl, ⟨_, _, HN.out⟩, HGX.out⟩
  case round =>
    obtain ⟨k, hk, rfl, ⟨lv, gs, hn⟩, hg⟩ := hrel
    obtain ⟨m0, -, m2, -⟩ := hn.box.eleven
    have hplt := hn.box.lt
    have hwp : some p ≠ lv.ownBlock := fun e => by have := (hn.last.lt p e.symm).1; omega
    have HWP := Lib.hid hwp
    have HNR := Lib.hid hn
    have HG := Lib.hid hg
    have hgl := hn.glen
    have hgl2 : gs.length ≤ 256 := by omega
    clear y0 y1 hwp hgl
    obtain ⟨y0, y1⟩ := hg.two
    clear hn hg
    by_cases hlt : k < b
    · have hlt1 : (k : Int) < (b : Int) := by omega
      go_upto_region 6 with fail
      have hgw : lv.ownBlock ≠ some w.heap.size := fun e => by have := (HNR.out.last.lt _ e).1; omega
      have n2 := Near.cell (w := wr.drew) (row := lv.ownBlock) m2 (by have := HWP.out; exact fun e => this e.symm)
      have n3 := Near.cell (w := wr.drew) (row := lv.ownBlock) y1 hgw
      have HGW := Lib.hid hgw
      clear hgw
      refine wp_region_mix (fun w' => ∃ x : Near wr.drew lv.ownBlock, w' = x.world) [12] 13 (by kernel_rfl) rfl ?_
      refine mix_reads_lit [0, 1, 2, 3, 4, 5, 6] 6 (by kernel_rfl) (by kernel_rfl) (by kernel_rfl) (by kernel_rfl) rfl (NearC.of (World.grownBy.refl _ _)) ?_
      simp only [pick, List.filterMap_cons, List.filterMap_nil, List.getElem?_cons_succ, List.getElem?_cons_zero]
      repeat (first | go_big_quiet_step (fail) | quiet_step (fail))
      refine wpQuiet_nil ?_
      refine mix_deed_lit 7 5 (by kernel_rfl) (by kernel_rfl) rfl (fun K hK => ?_)
      simp only [comesUp, List.getElem?_cons_succ, List.getElem?_cons_zero]
      refine if_mk rfl ?_
      refine step_make_bytes (.tmp 23) (.tmp 23) rfl s rfl rfl (by omega) ?_
      intro w2 hob hg2
      have gb1 : wr.drew.grownBy w2 lv.ownBlock := hg2.but _
      have HOB := Lib.hid hob
      have hlt2 : wr.heap.size < w2.heap.size := (hob.lt _ rfl).2
      have hszd : wr.drew.heap.size = wr.heap.size := rfl
      rw [hszd]
      refine hK _ _ (fun _ _ => NearC.of gb1) ?_
      clear hK K hob
      refine mix_deed_lit 8 4 (by kernel_rfl) (by kernel_rfl) rfl (fun K hK => ?_)
      simp only [comesUp, List.getElem?_cons_succ, List.getElem?_cons_zero]
      refine if_mk rfl ?_
      go_simp
      have gb2 : wr.drew.grownBy (w2.alloc (.cells #[.slice (some ⟨wr.heap.size, 0, none⟩) s s] 53)) lv.ownBlock := grown_trans gb1 (grown_alloc _ _ _)
      refine hK _ _ (fun _ _ => NearC.of gb2) ?_
      clear hK K
      have hll : OwnR (eBk s) w2 (p + 1) lv gs := (HNR.out.last.drew).grown hg2 (by cases lv.ownBlock <;> simp)
      have HLL := Lib.hid (hll.alloc (.cells #[.slice (some ⟨wr.heap.size, 0, none⟩) s s] 53))
      have HGB := Lib.hid gb2
      have hpw2 : p + 1 ≤ w2.heap.size := by omega
      clear hll gb1 gb2 hg2
      refine mix_deed_lit 9 3 (by kernel_rfl) (by kernel_rfl) rfl (fun K hK => ?_)
      simp only [comesUp, List.getElem?_cons_succ, List.getElem?_cons_zero]
      refine if_mk rfl ?_
      refine step_append_near (eBk s) (eBk_ok _) (.tmp 21) (.tmp 25) rfl (p + 1) lv gs rfl HLL.out [(wr.heap.size, s)] (RowAt.one (E := eBk s) w2 (wr.heap.size, s) #[.slice (some ⟨wr.heap.size, 0, none⟩) s s] 53 rfl w2.heap.size rfl) (by simp; omega) (by simp; omega) (by simp; omega) ?_
      intro v3 w3 ho3 hg3 hn3
      obtain ⟨a3, c3, rfl, -, -⟩ := ho3.slice
      have gb3 := grown_trans HGB.out hg3
      have hbx : BoxAt w3 p (cellsD { Bk.new b s with lasting := List.replicate k (Bk.zeros s) } lv (.slice none 0 0) (.slice none 0 0)) := (show BoxAt wr.drew p _ from HNR.out.box).grownR gb3 (fun e => HWP.out e.symm)
      have hgx3 : BoxAt w3 w.heap.size [.int .i64 (b : Int), .int .i64 (s : Int)] := (show BoxAt wr.drew w.heap.size _ from HG.out).grownR gb3 HGW.out
      refine hK _ _ (fun _ _ => NearC.of gb3) ?_
      clear hK K
      refine mix_reads_lit [10, 11] 1 (by kernel_rfl) (by kernel_rfl) (by kernel_rfl) (by kernel_rfl) rfl (NearC.of gb3) ?_
      simp only [pick, List.filterMap_cons, List.filterMap_nil, List.getElem?_cons_succ, List.getElem?_cons_zero]
      repeat (first | go_big_quiet_step (fail) | quiet_step (fail))
      refine wpQuiet_nil ?_
      have q3 := hbx.at 2 lv rfl
      have r3 := hbx.free 2 lv rfl
      have HBX := Lib.hid hbx
      have HGX3 := Lib.hid hgx3
      have HO3 := Lib.hid ho3
      have HG3 := Lib.hid gb3
      have HN3 := Lib.hid hn3
      have HGL := Lib.hid hg3
      have hs3 := hg3.size
      simp at hs3
      clear hbx ho3 hg3 hn3 gb3 hgx3
      refine mix_deed_lit 12 0 (by kernel_rfl) (by kernel_rfl) rfl (fun K hK => ?_)
      simp only [comesUp, List.getElem?_cons_succ, List.getElem?_cons_zero]
      refine if_mk rfl ?_
      go_simp
      refine hK _ _ (fun h => by simp [keeps] at h) ?_
      clear hK K
      refine mix_done_lit (by kernel_rfl) ?_
      go_upto_region 7 with fail
      refine wp_name fun V hV => ?_
      have hVb : ∀ k, k ≠ p → V.heap[k]? = w3.heap[k]? := fun k hk => by rw [hV]; exact heap_set_ne (fun e => hk e.symm)
      have hVs : V.heap.size = w3.heap.size := by rw [hV]; simp
      have hbxV : BoxAt V p (cellsD { Bk.new b s with lasting := List.replicate (k + 1) (Bk.zeros s) } (.slice a3 (gs.length + 1) c3) (.slice none 0 0) (.slice none 0 0)) := by rw [hV]; exact HBX.out.put 2 _
      have hVo : V.os = wr.os ∧ V.tape = wr.tape ∧ V.output = wr.output := by rw [hV]; exact ⟨HG3.out.os, HG3.out.tape, HG3.out.output⟩
      have hgxV : BoxAt V w.heap.size [.int .i64 (b : Int), .int .i64 (s : Int)] := by rw [hV]; exact HGX3.out.set (by omega) _ _
      clear hV
      have HWL := Lib.hid (fun k (hk : lv.ownBlock = some k) => HNR.out.last.lt k hk)
      have hown : Own V (p + 1) (.slice (some ⟨wr.heap.size, 0, none⟩) s s) (Bk.zeros s) := by
        have h1 : Own w2 (p + 1) (.slice (some ⟨wr.heap.size, 0, none⟩) s s) (Bk.zeros s) := HOB.out.mono (by show p + 1 ≤ wr.heap.size; omega)
        refine h1.on fun k hk => ?_
        obtain rfl : wr.heap.size = k := Option.some.inj hk
        rw [hVb _ (by omega), HGL.out.block _ (by simp; omega) (fun e => by have := (HWL.out _ e.symm).2; omega), Below.heap_alloc _ _ _ hlt2]
      have hnear : ∀ k, (Value.slice a3 (gs.length + 1) c3).ownBlock = some k → lv.ownBlock = some k ∨ w2.heap.size + 1 ≤ k := by
        intro k hk
        have hk' : (Value.slice a3 (gs ++ [(wr.heap.size, s)]).length c3).ownBlock = some k := by simpa using hk
        rcases HN3.out with h | h
        · exact .inl (h.symm.trans hk')
        · exact .inr (by simpa using h k hk')
      have hnear2 : (Value.slice a3 (gs.length + 1) c3).ownBlock = lv.ownBlock ∨ ∀ k, (Value.slice a3 (gs.length + 1) c3).ownBlock = some k → wr.heap.size ≤ k := by
        rcases HN3.out with h | h
        · exact .inl (by simpa using h)
        · exact .inr fun k hk => by
            have hk' : (Value.slice a3 (gs ++ [(wr.heap.size, s)]).length c3).ownBlock = some k := by simpa using hk
            have := h k hk'
            simp at this
            omega
      have hlastV : OwnR (eBk s) V (p + 1) (.slice a3 (gs.length + 1) c3) (gs ++ [(wr.heap.size, s)]) := by
        have h := HO3.out
        simp only [List.length_append, List.length_cons, List.length_nil, Nat.zero_add] at h
        refine h.on fun k hk => hVb k fun e => ?_
        rcases hnear k hk with h | h
        · exact HWP.out (by rw [h, e])
        · omega
      have hbel : Below w.heap.size w V := by
        refine HNR.out.below.trans ⟨hVo.1, hVo.2.1, hVo.2.2, by omega, fun k hk => ?_⟩
        have hkp : k ≠ p := by have := HNR.out.low; omega
        rw [hVb k hkp, HG3.out.block k (by show k < wr.heap.size; have := HNR.out.low; omega) (fun e => by have := (HWL.out _ e.symm).1; have := HNR.out.low; omega)]
        rfl
      have HNX := Lib.hid (HNR.out.next (w' := V) (g := (wr.heap.size, s)) (lv' := .slice a3 (gs.length + 1) c3) (fun i hi h1 h2 => by
        rw [hVb i h1, HG3.out.block i hi (fun e => h2 e.symm)]; rfl) hbxV hlastV hnear2 hown (Nat.le_refl _) (fun e => by
          rcases hnear _ e with h | h
          · have := (HWL.out _ h).2; omega
          · omega) hbel)
      have HGV := Lib.hid hgxV
      clear hbxV hVo hgxV hVb hVs hown hnear hnear2 hlastV hbel q3 r3 m0 m2 y0 y1 hszd
      go_wp2_with fail
      go_roundw
      case rel => exact ⟨k + 1, by omega, by go_num, ⟨_, _, HNX.out⟩, HGV.out⟩
      case measure => simp [intOf]; omega
    · obtain rfl : k = b := by omega
      clear m0 m2 y0 y1
      go_wp2_with fail
      go_ret2
      exact ⟨⟨p, rfl, HNR.out.disk⟩, HNR.out.below⟩
end Go.Proofs.YtflbioiildndoaaGreatDoor

/- disks: contracts told by an equation; regions that draw beside a call that changes a disk -/
namespace Go.Proofs.YtflbioiildndoaaGreatDoor
open Go.RowKit
set_option linter.unusedVariables false
set_option linter.unusedSimpArgs false

theorem BoxAt.eight {w : World} {r : Nat} {v0 v1 v2 v3 v4 v5 v6 v7 : Value} (h : BoxAt w r [v0, v1, v2, v3, v4, v5, v6, v7]) :
    w.cell? ⟨r, 0, none⟩ = some v0 ∧ w.cell? ⟨r, 1, none⟩ = some v1 ∧ w.cell? ⟨r, 2, none⟩ = some v2 ∧ w.cell? ⟨r, 3, none⟩ = some v3 ∧ w.cell? ⟨r, 4, none⟩ = some v4 ∧ w.cell? ⟨r, 5, none⟩ = some v5 ∧ w.cell? ⟨r, 6, none⟩ = some v6 ∧ w.cell? ⟨r, 7, none⟩ = some v7 :=
  ⟨h.at 0 _ rfl, h.at 1 _ rfl, h.at 2 _ rfl, h.at 3 _ rfl, h.at 4 _ rfl, h.at 5 _ rfl, h.at 6 _ rfl, h.at 7 _ rfl⟩
/-- a world behind w, in which all that was in w is as it was, but for what is of F -/
structure Far (w : World) (F : Nat → Prop) where
  world : World
  far : Beside F w world
instance Far.inhab (w : World) (F : Nat → Prop) : Nonempty (Far w F) := ⟨⟨w, Beside.refl _ _⟩⟩
theorem Beside.cell {F : Nat → Prop} {w w' : World} (hb : Beside F w w') {a : Addr} {v : Value} (h : w.cell? a = some v) (hr : ¬ F a.block) : w'.cell? a = some v := by
  have h1 := hb.block a.block (World.block_lt_of_cell? w a h) hr
  unfold World.cell? at h ⊢
  rw [h1]
  exact h
theorem Far.cell {w : World} {F : Nat → Prop} {a : Addr} {v : Value} (h : w.cell? a = some v) (hr : ¬ F a.block) (x : Far w F) : x.world.cell? a = some v := x.far.cell h hr
theorem FarC.of {w w' : World} {F : Nat → Prop} (h : Beside F w w') : ∃ x : Far w F, w' = x.world := ⟨⟨w', h⟩, rfl⟩
theorem BoxAt.beside {F : Nat → Prop} {w w' : World} {r : Nat} {vs : List Value} (h : BoxAt w r vs) (hb : Beside F w w') (hr : ¬ F r) : BoxAt w' r vs := h.on (hb.block r h.1 hr)
theorem Beside.drew {F : Nat → Prop} {w w' : World} (h : Beside F w w') : Beside F w w'.drew := ⟨h.os, h.tape, h.output, h.size, h.block⟩
theorem Beside.drewR {F : Nat → Prop} {w w' : World} (h : Beside F w w') : Beside F w.drew w' := ⟨h.os, h.tape, h.output, h.size, h.block⟩
theorem DiskAt.drew {F : Nat → Prop} {w : World} {p : Nat} {d : Bk.Disk} (h : DiskAt F w p d) : DiskAt F w.drew p d := h.on fun _ _ => rfl
theorem Held.more {F : Nat → Prop} {w w' : World} (h : Held F w) (hs : w.heap.size ≤ w'.heap.size) : Held F w' := fun k hk => Nat.lt_of_lt_of_le (h k hk) hs
theorem drew11 {w X : World} {r : Nat} {vs : List Value} {row : Option Nat} (h : BoxAt X r vs ∧ w.grownBy X row) : BoxAt X.drew r vs ∧ w.grownBy X.drew row := ⟨h.1.on rfl, grown_drew h.2⟩
theorem q_name {Q : Exit → Act → World → Prop} {x : Exit} {a : Act} {w : World} (h : ∀ W, W = w → Q x a W) : Q x a w := h w rfl
theorem on_to {F : Nat → Prop} {w : World} {p : Nat} {d E : Bk.Disk} (hd : DiskAt F w p d) (hE : Bk.on d = E) :
    Calls Tryz.prog 10 #[.pointer (some ⟨p, 0, none⟩)] w fun e w' => (∃ v, e = .returned v) ∧ DiskAt F w' p E ∧ Beside F w w' := by subst hE; exact on_does hd

theorem write_to {S : Nat → Prop} [Has S 1] [Has S 2] [Has S 7] {F : Nat → Prop} {w : World} {p n : Nat} {d E : Bk.Disk} {k : Nat} (hd : DiskAt F w p d) (ho : Bk.Ok n d) (hn : n ≤ 1000000) (hF : Held F w) (i : Int) (bv : Value) (b : List UInt8) (hE : Bk.put d i b = (E, k)) (hb : BytesAt w bv b) (A : Nat → Addr) (hsF : ∀ w1, Beside F w w1 → SentsOn S w1 A) :
    Calls Tryz.prog 26 #[.pointer (some ⟨p, 0, none⟩), .int .i64 i, bv] w (Does F w A p E k) := by
  have := write_does hd ho hn hF i bv b hb A hsF
  rw [hE] at this
  exact this
theorem arm_to {S : Nat → Prop} [Has S 1] [Has S 2] [Has S 7] {F : Nat → Prop} {w : World} {p : Nat} {d E : Bk.Disk} {k : Nat} (hd : DiskAt F w p d) (hF : Held F w) (after which cut : Int) (keepV : Value) (keep : List Bool) (hk : RowAt eBool w keepV keep) (hkl : keep.length ≤ 140737488355328) (hE : Bk.arm d after keep which cut = (E, k)) (A : Nat → Addr) (hs : SentsOn S w A) :
    Calls Tryz.prog 72 #[.pointer (some ⟨p, 0, none⟩), .int .i64 after, keepV, .int .i64 which, .int .i64 cut] w (Does F w A p E k) := by
  have := arm_does hd hF after which cut keepV keep hk hkl A hs
  rw [hE] at this
  exact this
theorem read_to {F : Nat → Prop} {w : World} {p n : Nat} {d : Bk.Disk} (hd : DiskAt F w p d) (ho : Bk.Ok n d) (i : Int) (h : Bk.In d i) (hoff : d.off = false) (l : List UInt8) (hl : Bk.read d i.toNat = l) :
    Calls Tryz.prog 15 #[.pointer (some ⟨p, 0, none⟩), .int .i64 i] w fun e w' => GivesB w l e w' ∧ Below w.heap.size w w' := read_ok hd ho i h.1 h.2 hoff l hl
end Go.Proofs.YtflbioiildndoaaGreatDoor
