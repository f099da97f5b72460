/- block: burns, Crash, Flush -/
import Derived.Test.YtflbioiildndoaaDoorBlock4
namespace Go.Proofs.YtflbioiildndoaaDoor
open Go.RowKit
set_option linter.unusedVariables false
set_option linter.unusedSimpArgs false

theorem DiskP.keepOut {F : Nat → Prop} {w : World} {p : Nat} {d : Bk.Disk} {lv wv kv : Value} {gs : List (Nat × Nat)} {hs : List (Int × Nat × Nat)} (h : DiskP F w p d lv wv kv gs hs) : ∀ k, kv.ownBlock = some k → k ≠ p ∧ ∀ g ∈ gs, g.1 ≠ k := by
  intro k hk
  have n1 := List.nodup_cons.1 h.nodup
  have n2 := List.nodup_append.1 n1.2
  have n3 := List.nodup_append.1 n2.2.1
  have n4 := List.nodup_append.1 n3.2.1
  have mk : k ∈ kv.ownBlock.toList := by simp [hk]
  refine ⟨fun e => n1.1 (e ▸ List.mem_append_right _ (List.mem_append_right _ (List.mem_append_left _ mk))), fun g hg e => ?_⟩
  exact n4.2.2 k mk g.1 (List.mem_append_left _ (List.mem_map_of_mem hg)) e.symm
theorem wrap64_is (n : Int) : wrap64 n = IntKind.i64.wrap n := by rw [IntKind.wrap_i64]; unfold wrap64; rfl
/-- without a fuse, the power off -/
def unfused (d : Bk.Disk) : Bk.Disk := { d with lit := false, after := 0, torn := 0, cut := 0, keep := [], off := true }
theorem unfused_ok {n : Nat} {d : Bk.Disk} (h : Bk.Ok n d) : Bk.Ok n (unfused d) := ⟨h.b, h.s, h.len, h.each, h.wait, h.many⟩
theorem blown_is (d : Bk.Disk) : Bk.crash (unfused d) d.keep d.torn d.cut = Bk.blown d := rfl
set_option maxRecDepth 100000 in
theorem burns_blow {F : Nat → Prop} {w : World} {p n : Nat} {d : Bk.Disk} (hd : DiskAt F w p d) (ho : Bk.Ok n d) (hb : Bk.blows d) :
    Calls Tryd.prog 63 #[.pointer (some ⟨p, 0, none⟩)] w fun e w' => e = .returned (.bool true) ∧ DiskAt F w' p (Bk.blown d) ∧ Beside F w w' := by
  obtain ⟨lv, wv, kv, gs, hs, hp⟩ := hd
  obtain ⟨hlit, haft⟩ := hb
  obtain ⟨ka, kc, ekv, hkl, hkm⟩ := hp.keep.slice
  subst ekv
  obtain ⟨m0, -, m2, m3, m4, m5, m6, m7, m8, m9, -⟩ := hp.box.eleven
  obtain ⟨f0, -, f2, f3, f4, f5, f6, f7, f8, f9, -⟩ := hp.box.elevenF
  rw [hlit] at m4
  rw [haft] at m5
  have HP := Lib.hid hp
  have HOK := Lib.hid ho
  have hplt := hp.box.lt
  clear hp ho hlit haft
  go_enter Tryd.func63, Tryd.ntmps63
  go_upto_region 4 with fail
  refine wp_name fun W hW => ?_
  have hG : w.grownBy W (some p) := by
    rw [hW]
    refine grown_trans ?_ (grown_alloc _ _ _)
    repeat (first | refine grownBy_set ?_ _ _ | exact World.grownBy.refl _ _)
  have hBX : BoxAt W p (cellsD (unfused d) lv wv (.slice none 0 0)) := by
    have h6 := (((((HP.out.box.put 4 (.bool false)).put 5 (.int .i64 0)).put 6 (.int .i64 0)).put 7 (.int .i64 0)).put 8 (.slice none 0 0)).put 9 (.bool true)
    have e6 : ((((((cellsD d lv wv (.slice ka d.keep.length kc)).set 4 (.bool false)).set 5 (.int .i64 0)).set 6 (.int .i64 0)).set 7 (.int .i64 0)).set 8 (.slice none 0 0)).set 9 (.bool true) = cellsD (unfused d) lv wv (.slice none 0 0) := by
      simp [cellsD, unfused]
    rw [e6] at h6
    rw [hW]
    exact h6.alloc _
  have HF := Lib.hid (show BoxAt W w.heap.size [.bool true, .int .i64 0, .int .i64 d.torn, .int .i64 d.cut, .slice ka d.keep.length kc] by rw [hW]; exact BoxAt.newAt _ _ (by simp) [_, _, _, _, _] _)
  have HPW := Lib.hid (HP.out.newKeep (d' := unfused d) hG hBX rfl rfl rfl (OwnR.nil _ _ _) (fun k hk => by cases hk))
  have HK := Lib.hid ((HP.out.keep.at eBool_ok).grownR hG (fun k hk e => (HP.out.keepOut k hk).1 (by cases e; rfl)))
  have HBS := Lib.hid (Beside.of_grown hG (HP.out.inF _ mem_p))
  clear hW hG hBX m0 m2 m3 m4 m5 m6 m7 m8 m9 f0 f2 f3 f4 f5 f6 f7 f8 f9
  obtain ⟨x0, x1, x2, x3, x4⟩ := HF.out.five
  go_wp2_with (go_at_call 64; (refine (crash_any HPW.out (unfused_ok HOK.out) ka kc d.keep HK.out (.inr HP.out.keepOut) _ _).mono ?_); (rintro e w2 ⟨⟨v2, rfl⟩, hd2, hb2⟩))
  go_ret
  exact ⟨rfl, ⟨_, _, _, _, _, hd2⟩, HBS.out.same hb2⟩
theorem burns_tick {F : Nat → Prop} {w : World} {p n : Nat} {d : Bk.Disk} (hd : DiskAt F w p d) (ho : Bk.Ok n d) (hb : ¬ Bk.blows d) :
    Calls Tryd.prog 63 #[.pointer (some ⟨p, 0, none⟩)] w fun e w' => e = .returned (.bool false) ∧ DiskAt F w' p (Bk.ticked d) ∧ Beside F w w' := by
  obtain ⟨lv, wv, kv, gs, hs, hp⟩ := hd
  obtain ⟨m0, -, m2, m3, m4, m5, m6, m7, m8, m9, m10⟩ := hp.box.eleven
  obtain ⟨f0, -, f2, f3, f4, f5, f6, f7, f8, f9, f10⟩ := hp.box.elevenF
  have HP := Lib.hid hp
  have HOK := Lib.hid ho
  have hplt := hp.box.lt
  have HB := Lib.hid hb
  clear hp ho hb
  cases hl : d.lit with
  | false =>
    rw [hl] at m4
    clear hl
    go_enter Tryd.func63, Tryd.ntmps63
    go_wp2_with fail
    go_ret
    simp only [wrap64_is]
    exact ⟨rfl, ⟨_, _, _, _, _, HP.out.rebox (grownBy_set (grownBy_set (World.grownBy.refl _ _) _ _) _ _) ((HP.out.box.put 5 (.int .i64 (IntKind.i64.wrap (d.after - 1)))).put 10 (.int .i64 (IntKind.i64.wrap (d.count + 1)))) rfl rfl rfl rfl⟩, Beside.of_grown (grownBy_set (grownBy_set (World.grownBy.refl _ _) _ _) _ _) (HP.out.inF _ mem_p)⟩
  | true =>
    have hne : (d.after == 0) = false := by have := HB.out; unfold Bk.blows at this; simp [hl] at this; simpa using this
    rw [hl] at m4
    clear hl
    go_enter Tryd.func63, Tryd.ntmps63
    go_wp2_with fail
    go_ret
    simp only [wrap64_is]
    exact ⟨rfl, ⟨_, _, _, _, _, HP.out.rebox (grownBy_set (grownBy_set (World.grownBy.refl _ _) _ _) _ _) ((HP.out.box.put 5 (.int .i64 (IntKind.i64.wrap (d.after - 1)))).put 10 (.int .i64 (IntKind.i64.wrap (d.count + 1)))) rfl rfl rfl rfl⟩, Beside.of_grown (grownBy_set (grownBy_set (World.grownBy.refl _ _) _ _) _ _) (HP.out.inF _ mem_p)⟩
end Go.Proofs.YtflbioiildndoaaDoor
