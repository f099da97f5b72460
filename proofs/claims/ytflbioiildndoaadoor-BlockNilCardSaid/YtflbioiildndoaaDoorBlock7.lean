/- block: On, Arm, Write -/
import Derived.Test.YtflbioiildndoaaDoorBlock6
namespace Go.Proofs.YtflbioiildndoaaDoor
open Go.RowKit
set_option linter.unusedVariables false
set_option linter.unusedSimpArgs false

theorem heap_set_ne {w : World} {p k j : Nat} {u : Value} (h : p ≠ k) : (w.setCell ⟨p, j, none⟩ u).heap[k]? = w.heap[k]? := Below.heap_setCell _ _ _ _ (fun e => h e.symm)
theorem Grows.more {F : Nat → Prop} {w w' : World} (h : Held F w) (hs : w.heap.size ≤ w'.heap.size) : Grows F w (More F w w') w' := fun k hk => by
  rcases hk with hk | hk
  · exact ⟨.inl hk, Nat.lt_of_lt_of_le (h k hk) hs⟩
  · exact ⟨.inr hk.1, hk.2⟩
theorem on_does {F : Nat → Prop} {w : World} {p : Nat} {d : Bk.Disk} (hd : DiskAt F w p d) :
    Calls Tryd.prog 22 #[.pointer (some ⟨p, 0, none⟩)] w fun e w' => (∃ v, e = .returned v) ∧ DiskAt F w' p (Bk.on d) ∧ Beside F w w' := by
  obtain ⟨lv, wv, kv, gs, hs, hp⟩ := hd
  obtain ⟨f0, -, f2, f3, f4, f5, f6, f7, f8, f9, -⟩ := hp.box.elevenF
  obtain ⟨m0, -, m2, m3, m4, m5, m6, m7, m8, m9, -⟩ := hp.box.eleven
  have HP := Lib.hid hp
  clear hp
  go_enter Tryd.func22, Tryd.ntmps22
  go_wp2_with fail
  go_returns
  have h6 := (((((HP.out.box.put 9 (.bool false)).put 4 (.bool false)).put 5 (.int .i64 0)).put 6 (.int .i64 0)).put 7 (.int .i64 0)).put 8 (.slice none 0 0)
  have e6 : ((((((cellsD d lv wv kv).set 9 (.bool false)).set 4 (.bool false)).set 5 (.int .i64 0)).set 6 (.int .i64 0)).set 7 (.int .i64 0)).set 8 (.slice none 0 0) = cellsD (Bk.on d) lv wv (.slice none 0 0) := by
    simp [cellsD, Bk.on]
  rw [e6] at h6
  refine ⟨⟨_, rfl⟩, ⟨_, _, _, _, _, HP.out.newKeep (d' := Bk.on d) ?_ h6 rfl rfl rfl (OwnR.nil _ _ _) (fun k hk => by cases hk)⟩, Beside.of_grown ?_ (HP.out.inF _ mem_p)⟩
  all_goals repeat (first | refine grownBy_set ?_ _ _ | exact World.grownBy.refl _ _)
theorem on_nothing (w : World) :
    Calls Tryd.prog 22 #[.pointer none] w fun e w' => (∃ v, e = .returned v) ∧ w = w' := by
  go_enter Tryd.func22, Tryd.ntmps22
  go_wp2_with fail
  go_returns
  exact ⟨⟨_, rfl⟩, rfl⟩
/-! ### Arm -/
theorem arm_nil (after which cut : Int) (keepV : Value) (w : World) (A : Nat → Addr) (hs : Sents w A) :
    Calls Tryd.prog 29 #[.pointer none, .int .i64 after, keepV, .int .i64 which, .int .i64 cut] w fun e w' => IsFault A w.heap.size [-1] 7 e w' ∧ Below w.heap.size w w' := by
  have g2 : w.cell? ⟨1, 0, none⟩ = some (.iface 171 (.pointer (some (A 7)))) := hs.cell 7 (by decide) (by decide)
  have HE := Lib.hid (sent_err (w := w) (A := A) (B := w.heap.size) 7 (by decide) (by decide))
  clear hs
  go_enter Tryd.func29, Tryd.ntmps29
  go_wp2_with (go_at_call 54; refine (faultNew_any _ 7 _ _ A w.heap.size HE.out (by decide) (Nat.le_refl _)).mono ?_; rintro e w' ⟨⟨v, rfl, hv⟩, hb⟩)
  go_ret
  exact ⟨⟨_, rfl, hv⟩, hb⟩
theorem arm_neg {F : Nat → Prop} {w : World} {p : Nat} {d : Bk.Disk} (hd : DiskAt F w p d) (hF : Held F w) (after which cut : Int) (ha : after < 0) (keepV : Value) (A : Nat → Addr) (hs : Sents w A) :
    Calls Tryd.prog 29 #[.pointer (some ⟨p, 0, none⟩), .int .i64 after, keepV, .int .i64 which, .int .i64 cut] w (Does F w A p d 2) := by
  have g2 : w.cell? ⟨0, 0, none⟩ = some (.iface 171 (.pointer (some (A 2)))) := hs.cell 2 (by decide) (by decide)
  have HE := Lib.hid (sent_err (w := w) (A := A) (B := w.heap.size) 2 (by decide) (by decide))
  have HD := Lib.hid hd
  have HF := Lib.hid hF
  clear hs hd hF
  go_enter Tryd.func29, Tryd.ntmps29
  go_wp2_with (go_at_call 54; refine (faultNew_any _ 2 _ _ A w.heap.size HE.out (by decide) (Nat.le_refl _)).mono ?_; rintro e w' ⟨⟨v, rfl, hv⟩, hb⟩)
  go_ret
  exact Does.weak HF.out HD.out (Beside.refl _ _) hb hv
set_option maxRecDepth 100000 in
theorem arm_ok {F : Nat → Prop} {w : World} {p : Nat} {d : Bk.Disk} (hd : DiskAt F w p d) (hF : Held F w) (after which cut : Int) (ha : 0 ≤ after) (keepV : Value) (keep : List Bool) (hk : RowAt eBool w keepV keep) (hkl : keep.length ≤ 140737488355328) (A : Nat → Addr) :
    Calls Tryd.prog 29 #[.pointer (some ⟨p, 0, none⟩), .int .i64 after, keepV, .int .i64 which, .int .i64 cut] w (Does F w A p (Bk.arm d after keep which cut).1 0) := by
  obtain ⟨lv, wv, kv, gs, hs, hp⟩ := hd
  obtain ⟨f0, -, f2, f3, f4, f5, f6, f7, f8, f9, -⟩ := hp.box.elevenF
  obtain ⟨m0, -, m2, m3, m4, m5, m6, m7, m8, m9, -⟩ := hp.box.eleven
  have hplt := hp.box.lt
  have HP := Lib.hid hp
  have HF := Lib.hid hF
  have HK := Lib.hid hk
  have HKL := Lib.hid hkl
  clear hp hF hk hkl
  go_enter Tryd.func29, Tryd.ntmps29
  go_wp2_with (at_builtin; refine wpList_append_near eBool eBool_ok rfl (.tmp 23) (.tmp 24) rfl w.heap.size _ [] rfl (OwnR.empty w _ (Nat.le_refl _)) _ keep rfl (HK.out.alloc _) (by have := HKL.out; simp; omega) (by have := HKL.out; simp; omega) (by simp) ?_)
  intro v1 w1 ho1 hg1 hn1
  clear hn1
  have hg0 : w.grownBy w1 (some w.heap.size) := grown_trans (grown_alloc _ _ _) (by simpa [Value.ownBlock] using hg1)
  have hgp : w.grownBy w1 (some p) := ⟨hg0.os, hg0.tape, hg0.output, hg0.size, fun k hk _ => hg0.block k hk (by simp; omega)⟩
  have hbx := HP.out.box.grownR hg0 (by simp; omega)
  obtain ⟨a1, c1, rfl, -, -⟩ := ho1.slice
  clear f0 f2 f3 f4 f5 f6 f7 f8 f9 m0 m2 m3 m4 m5 m6 m7 m8 m9
  obtain ⟨f0, -, f2, f3, f4, f5, f6, f7, f8, f9, -⟩ := hbx.elevenF
  obtain ⟨m0, -, m2, m3, m4, m5, m6, m7, m8, m9, -⟩ := hbx.eleven
  have HO1 := Lib.hid ho1
  have HBX := Lib.hid hbx
  have HGP := Lib.hid hgp
  have hsz := hgp.size
  have hsz0 := hg1.size
  simp at hsz0
  clear ho1 hbx hgp hg0 hg1
  go_wp2_with fail
  go_ret
  have h6 := ((((HBX.out.put 4 (.bool true)).put 5 (.int .i64 after)).put 6 (.int .i64 which)).put 7 (.int .i64 cut)).put 8 (.slice a1 keep.length c1)
  have e6 : (((((cellsD d lv wv kv).set 4 (.bool true)).set 5 (.int .i64 after)).set 6 (.int .i64 which)).set 7 (.int .i64 cut)).set 8 (.slice a1 keep.length c1) = cellsD (Bk.arm d after keep which cut).1 lv wv (.slice a1 keep.length c1) := by
    unfold Bk.arm
    rw [if_neg (by omega)]
    simp [cellsD]
  rw [e6] at h6
  have e1 : (Bk.arm d after keep which cut).1 = { d with lit := true, after := after, torn := which, cut := cut, keep := keep } := by unfold Bk.arm; rw [if_neg (by omega)]
  have hG : w.grownBy (((((w1.setCell ⟨p, 4, none⟩ (.bool true)).setCell ⟨p, 5, none⟩ (.int .i64 after)).setCell ⟨p, 6, none⟩ (.int .i64 which)).setCell ⟨p, 7, none⟩ (.int .i64 cut)).setCell ⟨p, 8, none⟩ (.slice a1 keep.length c1)) (some p) := by
    repeat (first | refine grownBy_set ?_ _ _ | exact HGP.out)
  have hlt : ∀ k, (Value.slice a1 keep.length c1).ownBlock = some k → w.heap.size ≤ k ∧ k < w1.heap.size := fun k hk => HO1.out.lt k hk
  refine ⟨More F w w1, [], _, rfl, ErrIs.nil _ _ _, ⟨_, _, _, _, _, (HP.out.mono (F' := More F w w1) fun k hk => .inl hk).newKeep (d' := (Bk.arm d after keep which cut).1) hG h6 (by rw [e1]) (by rw [e1]) (by rw [e1]) (by
    rw [e1]
    refine (HO1.out.mono (Nat.zero_le _)).on fun k hk => ?_
    have := hlt k hk
    have hne : p ≠ k := by omega
    rw [heap_set_ne hne, heap_set_ne hne, heap_set_ne hne, heap_set_ne hne, heap_set_ne hne]) (fun k hk => ⟨(hlt k hk).1, .inr (hlt k hk)⟩)⟩, Beside.of_grown hG (HP.out.inF _ mem_p), ?_⟩
  have := Grows.more HF.out (w' := w1) hsz
  intro k hk
  have := this k hk
  simpa using this
end Go.Proofs.YtflbioiildndoaaDoor
