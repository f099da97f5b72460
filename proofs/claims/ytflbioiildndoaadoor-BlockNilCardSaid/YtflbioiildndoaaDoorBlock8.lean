/- block: Write -/
import Derived.Test.YtflbioiildndoaaDoorBlock7
namespace Go.Proofs.YtflbioiildndoaaDoor
open Go.RowKit
set_option linter.unusedVariables false
set_option linter.unusedSimpArgs false

theorem write_err {F : Nat → Prop} {w : World} {p : Nat} {d : Bk.Disk} (hd : DiskAt F w p d) (hF : Held F w) (i : Int) (bv : Value) (k : Nat) (l : List Int) (hk : k ≠ 0) (A : Nat → Addr)
    (hc : ∀ (op : ByteArray) (w1 : World), w1 = w → Calls Tryd.prog 57 #[.pointer (some ⟨p, 0, none⟩), .string op, .int .i64 i] w1 fun e w' => IsFault A w.heap.size l k e w' ∧ Below w.heap.size w w') :
    Calls Tryd.prog 33 #[.pointer (some ⟨p, 0, none⟩), .int .i64 i, bv] w (Does F w A p d k) := by
  have HC := Lib.hid hc
  have HD := Lib.hid hd
  have HF := Lib.hid hF
  clear hc hd hF
  go_enter Tryd.func33, Tryd.ntmps33
  go_wp2_with (go_at_call 57; refine (HC.out _ _ rfl).mono ?_; rintro e w' ⟨⟨v, rfl, hv⟩, hb⟩; obtain ⟨tv, xv, rfl⟩ := hv.iface hk)
  go_ret
  exact Does.weak HF.out HD.out (Beside.refl _ _) hb hv
theorem write_nil (i : Int) (bv : Value) (w : World) (A : Nat → Addr) (hs : Sents w A) :
    Calls Tryd.prog 33 #[.pointer none, .int .i64 i, bv] w fun e w' => IsFault A w.heap.size [-1] 7 e w' ∧ Below w.heap.size w w' := by
  have HS := Lib.hid hs
  clear hs
  go_enter Tryd.func33, Tryd.ntmps33
  go_wp2_with (go_at_call 57; refine (on_nil _ i _ A HS.out).mono ?_; rintro e w' ⟨⟨v, rfl, hv⟩, hb⟩; obtain ⟨tv, xv, rfl⟩ := hv.iface (by decide))
  go_ret
  exact ⟨⟨_, rfl, hv⟩, hb⟩
theorem write_form {F : Nat → Prop} {w : World} {p : Nat} {d : Bk.Disk} (hd : DiskAt F w p d) (hF : Held F w) (i : Int) (h1 : 0 ≤ i) (h2 : i < d.blocks) (hoff : d.off = false) (bv : Value) (b : List UInt8) (hb : BytesAt w bv b) (hl : b.length ≠ d.size) (A : Nat → Addr) (hs : Sents w A) :
    Calls Tryd.prog 33 #[.pointer (some ⟨p, 0, none⟩), .int .i64 i, bv] w (Does F w A p d 1) := by
  have HD := Lib.hid hd
  obtain ⟨lv, wv, kv, gs, hs0, hp⟩ := hd
  obtain ⟨m0, m1, -, -, -, -, -, -, -, m9, -⟩ := hp.box.eleven
  obtain ⟨a, c, rfl, -, -, -⟩ := hb
  rw [hoff] at m9
  have g2 : w.cell? ⟨2, 0, none⟩ = some (.iface 171 (.pointer (some (A 1)))) := hs.cell 1 (by decide) (by decide)
  have HE := Lib.hid (sent_err (w := w) (A := A) (B := w.heap.size) 1 (by decide) (by decide))
  have HF := Lib.hid hF
  have e1 : ((b.length : Int) != (d.size : Int)) = true := by simp; omega
  clear hs hp hF hoff hl
  go_enter Tryd.func33, Tryd.ntmps33
  go_wp2_with (first
    | (go_at_call 57; (refine (on_ok p _ i _ _ m0 h1 h2 m9).mono ?_); (rintro e w1 ⟨rfl, rfl⟩))
    | (go_at_call 67; refine (faultAt_any _ _ [] 1 _ _ A w.heap.size HE.out (by decide) (Nat.le_refl _)).mono ?_; rintro e w' ⟨⟨v, rfl, hv⟩, hb⟩))
  go_ret
  exact Does.weak HF.out HD.out (Beside.refl _ _) hb hv
/-- a write more waits -/
def waits (d : Bk.Disk) (i : Nat) (b : Bk.Blk) : Bk.Disk := { d with waiting := d.waiting ++ [(i, b)] }
set_option maxRecDepth 100000 in
set_option maxHeartbeats 1000000 in
theorem write_in {F : Nat → Prop} {w : World} {p n : Nat} {d : Bk.Disk} (hd : DiskAt F w p d) (ho : Bk.Ok n d) (hn : n ≤ 1000000) (hF : Held F w) (i : Nat) (h2 : i < d.blocks) (hoff : d.off = false) (bv : Value) (b : List UInt8) (hb : BytesAt w bv b) (hl : b.length = d.size) (A : Nat → Addr) (hsF : ∀ w1, Beside F w w1 → Sents w1 A) :
    Calls Tryd.prog 33 #[.pointer (some ⟨p, 0, none⟩), .int .i64 (i : Int), bv] w (Does F w A p (Bk.burns (waits d i b)).1 (Bk.burns (waits d i b)).2) := by
  obtain ⟨lv, wv, kv, gs, hs, hp⟩ := hd
  obtain ⟨ba, bc, rfl, -, -, -⟩ := id hb
  obtain ⟨m0, m1, m2, m3, -, -, -, -, -, m9, -⟩ := hp.box.eleven
  rw [hoff] at m9
  have f3 := hp.box.free 3 _ rfl
  have hsz := ho.s
  have hmany := ho.many
  have HP := Lib.hid hp
  have HOK := Lib.hid ho
  have HF := Lib.hid hF
  have HB := Lib.hid hb
  have HS := Lib.hid hsF
  have HL := Lib.hid hl
  have hlen : b.length ≤ 100000000 := by omega
  have hi0 : (0 : Int) ≤ (i : Int) := by omega
  have hi1 : (i : Int) < (d.blocks : Int) := by omega
  have e1 : ((b.length : Int) != (d.size : Int)) = false := by simp; omega
  have hwl : hs.length ≤ 1000000 := by rw [hp.hlen]; omega
  have hplt := hp.box.lt
  have hwp : some p ≠ wv.ownBlock := fun e => (List.nodup_cons.1 hp.nodup).1 (List.mem_append_right _ (List.mem_append_left _ (by rw [← e]; simp)))
  have HW := Lib.hid hwp
  clear hp ho hF hb hsF hl hoff hwp
  go_enter Tryd.func33, Tryd.ntmps33
  go_upto_region 6 with (go_at_call 57; (refine (on_ok p _ (i : Int) _ _ m0 hi0 hi1 m9).mono ?_); (rintro e w1 ⟨rfl, rfl⟩))
  have n3 := Near.cell (w := w.drew) (row := wv.ownBlock) m3 (by have := HW.out; exact fun e => this e.symm)
  refine wp_region_mix (fun w' => ∃ x : Near w.drew wv.ownBlock, w' = x.world) [13] 14 (by kernel_rfl) rfl ?_
  refine mix_reads_lit [0, 1, 2, 3, 4, 5, 6] 7 (by kernel_rfl) (by kernel_rfl) (by kernel_rfl) (by kernel_rfl) rfl (NearC.of (World.grownBy.refl _ _)) ?_
  simp only [pick, List.filterMap_cons, List.filterMap_nil, List.getElem?_cons_succ, List.getElem?_cons_zero]
  repeat (first | go_big_quiet_step (fail) | quiet_step (fail))
  refine wpQuiet_nil ?_
  refine mix_deed_lit 7 6 (by kernel_rfl) (by kernel_rfl) rfl (fun K hK => ?_)
  simp only [comesUp, List.getElem?_cons_succ, List.getElem?_cons_zero]
  refine if_mk rfl ?_
  go_simp
  refine (cloned_any _ b _ (HB.out.below (Below.refl _ _).drew) hlen).mono ?_
  rintro e w1 ⟨⟨rfl, hob⟩, hb1⟩
  have gb1 : w.drew.grownBy w1 wv.ownBlock := grown_of_below hb1 (Nat.le_refl _) _
  have HOB := Lib.hid hob
  have hlt1 : w.heap.size < w1.heap.size := (hob.lt _ rfl).2
  refine hK _ _ (fun _ _ => NearC.of gb1) ?_
  clear hK K hob
  refine mix_reads_lit [8] 5 (by kernel_rfl) (by kernel_rfl) (by kernel_rfl) (by kernel_rfl) rfl (NearC.of gb1) ?_
  simp only [pick, List.filterMap_cons, List.filterMap_nil, List.getElem?_cons_succ, List.getElem?_cons_zero]
  repeat (first | go_big_quiet_step (fail) | quiet_step (fail))
  refine wpQuiet_nil ?_
  refine mix_deed_lit 9 4 (by kernel_rfl) (by kernel_rfl) rfl (fun K hK => ?_)
  simp only [comesUp, List.getElem?_cons_succ, List.getElem?_cons_zero]
  refine if_mk rfl ?_
  go_simp
  have gb2 : w.drew.grownBy (w1.alloc (.cells #[.int .i64 (i : Int), .slice (some ⟨w.heap.size, 0, none⟩) b.length b.length] 105)) wv.ownBlock := grown_trans gb1 (grown_alloc _ _ _)
  refine hK _ _ (fun _ _ => NearC.of gb2) ?_
  clear hK K
  have hwt : OwnR (eWk b.length) w 0 wv hs := by rw [HL.out]; exact HP.out.wait
  have HWT := Lib.hid (((hwt.drew).below hb1 (Nat.le_refl _)).alloc (.cells #[.int .i64 (i : Int), .slice (some ⟨w.heap.size, 0, none⟩) b.length b.length] 105))
  have HGB := Lib.hid gb2
  have HB1 := Lib.hid hb1
  clear hwt gb1 gb2 hb1
  refine mix_deed_lit 10 3 (by kernel_rfl) (by kernel_rfl) rfl (fun K hK => ?_)
  simp only [comesUp, List.getElem?_cons_succ, List.getElem?_cons_zero]
  refine if_mk rfl ?_
  refine step_append_near (eWk b.length) (eWk_ok _) (.tmp 29) (.tmp 34) rfl 0 wv hs rfl HWT.out [((i : Int), w.heap.size, b.length)] (RowAt.one (E := eWk b.length) w1 ((i : Int), w.heap.size, b.length) #[.int .i64 (i : Int), .slice (some ⟨w.heap.size, 0, none⟩) b.length b.length] 105 rfl w1.heap.size rfl) (by simp; omega) (by simp; omega) (Nat.zero_le _) ?_
  intro v3 w3 ho3 hg3 hn3
  obtain ⟨a3, c3, rfl, -, -⟩ := ho3.slice
  have gb3 := grown_trans HGB.out hg3
  have hbx : BoxAt w3 p (cellsD d lv wv kv) := (show BoxAt w.drew p (cellsD d lv wv kv) from HP.out.drew.box).grownR gb3 (fun e => HW.out e.symm)
  refine hK _ _ (fun _ _ => NearC.of gb3) ?_
  clear hK K
  refine mix_reads_lit [11, 12] 1 (by kernel_rfl) (by kernel_rfl) (by kernel_rfl) (by kernel_rfl) rfl (NearC.of gb3) ?_
  simp only [pick, List.filterMap_cons, List.filterMap_nil, List.getElem?_cons_succ, List.getElem?_cons_zero]
  repeat (first | go_big_quiet_step (fail) | quiet_step (fail))
  refine wpQuiet_nil ?_
  have q3 := hbx.at 3 wv rfl
  have r3 := hbx.free 3 wv rfl
  have HBX := Lib.hid hbx
  have HO3 := Lib.hid ho3
  have HG3 := Lib.hid gb3
  have HN3 := Lib.hid hn3
  have HGL := Lib.hid hg3
  have hs3 := hg3.size
  have hs1 := HB1.out.size
  clear hbx ho3 hg3 hn3 gb3
  refine mix_deed_lit 13 0 (by kernel_rfl) (by kernel_rfl) rfl (fun K hK => ?_)
  simp only [comesUp, List.getElem?_cons_succ, List.getElem?_cons_zero]
  refine if_mk rfl ?_
  go_simp
  refine hK _ _ (fun h => by simp [keeps] at h) ?_
  clear hK K
  refine mix_done_lit (by kernel_rfl) ?_
  go_upto_region 7 with fail
  refine wp_name fun V hV => ?_
  have hVb : ∀ k, k ≠ p → V.heap[k]? = w3.heap[k]? := fun k hk => by rw [hV]; exact heap_set_ne (fun e => hk e.symm)
  have hVs : V.heap.size = w3.heap.size := by rw [hV]; simp
  have hbxV : BoxAt V p (cellsD (waits d i b) lv (.slice a3 (hs.length + 1) c3) kv) := by rw [hV]; exact HBX.out.put 3 _
  have hVo : V.os = w.os ∧ V.tape = w.tape ∧ V.output = w.output := by rw [hV]; exact ⟨HG3.out.os, HG3.out.tape, HG3.out.output⟩
  clear hV
  have hs1' : w.heap.size ≤ w1.heap.size := hs1
  have hs3' : w1.heap.size + 1 ≤ w3.heap.size := by simpa using hs3
  clear hs1 hs3
  have HWL := Lib.hid (fun k (hk : wv.ownBlock = some k) => (HP.out.wait.lt k hk).2)
  have hbs : b.length = d.size := HL.out
  have hown : Own V 0 (.slice (some ⟨w.heap.size, 0, none⟩) b.length b.length) b := by
    refine (HOB.out.mono (Nat.zero_le _)).on fun k hk => ?_
    obtain rfl : w.heap.size = k := Option.some.inj hk
    rw [hVb _ (by omega), HGL.out.block _ (by simp; omega) (fun e => by have := HWL.out _ e.symm; omega), Below.heap_alloc _ _ _ hlt1]
  have hnear : ∀ k, (Value.slice a3 (hs.length + 1) c3).ownBlock = some k → wv.ownBlock = some k ∨ w1.heap.size + 1 ≤ k := by
    intro k hk
    have hk' : (Value.slice a3 (hs ++ [((i : Int), w.heap.size, b.length)]).length c3).ownBlock = some k := by simpa using hk
    rcases HN3.out with h | h
    · exact .inl (h.symm.trans hk')
    · exact .inr (by simpa using h k hk')
  have hnear2 : (Value.slice a3 (hs.length + 1) c3).ownBlock = wv.ownBlock ∨ ∀ k, (Value.slice a3 (hs.length + 1) c3).ownBlock = some k → w.heap.size ≤ k := by
    rcases HN3.out with h | h
    · exact .inl (by simpa using h)
    · exact .inr fun k hk => by
        have hk' : (Value.slice a3 (hs ++ [((i : Int), w.heap.size, b.length)]).length c3).ownBlock = some k := by simpa using hk
        have := h k hk'
        simp at this
        omega
  have hwaitV : OwnR (eWk d.size) V 0 (.slice a3 (hs.length + 1) c3) (hs ++ [((i : Int), w.heap.size, b.length)]) := by
    have h := HO3.out
    rw [hbs] at h
    simp only [List.length_append, List.length_cons, List.length_nil, Nat.zero_add] at h
    rw [hbs]
    refine h.on fun k hk => hVb k fun e => ?_
    rcases hnear k hk with h | h
    · exact HW.out (by rw [h, e])
    · omega
  have hbes : Beside F w V := by
    refine ⟨hVo.1, hVo.2.1, hVo.2.2, by omega, fun k hk hnF => ?_⟩
    rw [hVb k (fun e => hnF (e ▸ HP.out.inF _ mem_p)), HG3.out.block k hk (fun e => hnF (HP.out.inF _ (mem_wv e.symm)))]
    rfl
  have hdisk : DiskAt (More F w V) V p (waits d i b) := by
    rw [hbs] at hown hwaitV
    exact ⟨_, _, _, _, _, HP.out.addWait (F' := More F w V) (d' := waits d i b) (i := i) (g := (w.heap.size, d.size)) (b := b)
      (fun k hk h1 h2 => by rw [hVb k h1, HG3.out.block k hk (fun e => h2 e.symm)]; rfl) hbxV rfl rfl rfl rfl hwaitV hnear2 hown (Nat.le_refl _)
      (fun e => by
        rcases hnear _ e with h | h
        · have := HWL.out _ h; omega
        · omega)
      (fun k hk => .inl hk) (.inr ⟨Nat.le_refl _, by omega⟩)
      (fun k hk => by
        have hlt := (hwaitV.lt k hk).2
        rcases hnear2 with h | h
        · exact .inl (HP.out.inF _ (mem_wv (h ▸ hk)))
        · exact .inr ⟨h k hk, hlt⟩)⟩
  have hok : Bk.Ok (n + 1) (waits d i b) := HOK.out.wait1 h2 HL.out
  have hgr := Grows.more HF.out (w' := V) (by omega)
  have HDK := Lib.hid hdisk
  have HOK2 := Lib.hid hok
  have HGR := Lib.hid hgr
  have HBS := Lib.hid hbes
  clear hdisk hok hgr hbes hwaitV hnear hnear2 hown hbxV hVb hVs hVo hbs q3 r3 m0 m1 m2 m3 m9 f3 hs1' hs3' e1
  by_cases hbl : Bk.blows (waits d i b)
  · have HBL := Lib.hid hbl
    have hbz : Bk.burns (waits d i b) = (Bk.blown (waits d i b), 7) := by unfold Bk.burns; rw [if_pos hbl]
    have HBZ := Lib.hid hbz
    clear hbl hbz
    go_upto_region 8 with (go_at_call 63; (refine (burns_blow HDK.out HOK2.out HBL.out).mono ?_); (rintro e w5 ⟨rfl, hd5, hb5⟩))
    have hb6 : Beside F w w5 := HBS.out.trans HGR.out hb5
    have g2 : w5.cell? ⟨1, 0, none⟩ = some (.iface 171 (.pointer (some (A 7)))) := (HS.out w5 hb6).cell 7 (by decide) (by decide)
    have HE := Lib.hid (sent_err (w := w5) (A := A) (B := w5.heap.size) 7 (by decide) (by decide))
    have HD5 := Lib.hid hd5
    have HB5 := Lib.hid hb5
    have HB6 := Lib.hid hb6
    clear hd5 hb5 hb6
    go_wp2_with (go_at_call 67; refine (faultAt_any _ _ [] 7 _ _ A w5.heap.size HE.out (by decide) (Nat.le_refl _)).mono ?_; rintro e w' ⟨⟨v, rfl, hv⟩, hb⟩)
    go_ret
    rw [HBZ.out]
    have hG5 : Grows F w (More F w V) w5 := fun k hk => ⟨(HGR.out k hk).1, Nat.lt_of_lt_of_le (HGR.out k hk).2 HB5.out.size⟩
    refine ⟨More F w V, _, v, rfl, hv.mono HB6.out.size, HD5.out.below hG5.held hb, HB6.out.same (Beside.of_below hb), fun k hk => ⟨(hG5 k hk).1, Nat.lt_of_lt_of_le (hG5 k hk).2 hb.size⟩⟩
  · have HBL := Lib.hid hbl
    have hbz : Bk.burns (waits d i b) = (Bk.ticked (waits d i b), 0) := by unfold Bk.burns; rw [if_neg hbl]
    have HBZ := Lib.hid hbz
    clear hbl hbz
    go_wp2_with (go_at_call 63; (refine (burns_tick HDK.out HOK2.out HBL.out).mono ?_); (rintro e w5 ⟨rfl, hd5, hb5⟩))
    go_ret
    rw [HBZ.out]
    exact ⟨More F w V, [], _, rfl, ErrIs.nil _ _ _, hd5, HBS.out.trans HGR.out hb5, fun k hk => ⟨(HGR.out k hk).1, Nat.lt_of_lt_of_le (HGR.out k hk).2 hb5.size⟩⟩
theorem put_out {d : Bk.Disk} {i : Int} {b : Bk.Blk} (h : i < 0 ∨ (d.blocks : Int) ≤ i) : Bk.put d i b = (d, 2) := by
  unfold Bk.put
  rw [if_neg (by unfold Bk.In; omega)]
theorem put_in {d : Bk.Disk} {i : Nat} {b : Bk.Blk} (h : i < d.blocks) : Bk.put d (i : Int) b = if d.off = true then (d, 7) else if b.length = d.size then Bk.burns (waits d i b) else (d, 1) := by
  unfold Bk.put
  rw [if_pos (by unfold Bk.In; omega)]
  rfl
theorem write_does {F : Nat → Prop} {w : World} {p n : Nat} {d : Bk.Disk} (hd : DiskAt F w p d) (ho : Bk.Ok n d) (hn : n ≤ 1000000) (hF : Held F w) (i : Int) (bv : Value) (b : List UInt8) (hb : BytesAt w bv b) (A : Nat → Addr) (hsF : ∀ w1, Beside F w w1 → Sents w1 A) :
    Calls Tryd.prog 33 #[.pointer (some ⟨p, 0, none⟩), .int .i64 i, bv] w (Does F w A p (Bk.put d i b).1 (Bk.put d i b).2) := by
  have hs := hsF w (Beside.refl _ _)
  by_cases h : i < 0 ∨ (d.blocks : Int) ≤ i
  · rw [put_out h]
    obtain ⟨lv, wv, kv, gs, hs0, hp⟩ := id hd
    exact write_err hd hF i bv 2 [max i (-1)] (by decide) A fun op w1 e => by subst e; exact on_out p op i _ _ hp.box.eleven.1 h A hs
  · obtain ⟨k, rfl⟩ : ∃ k : Nat, i = (k : Int) := ⟨i.toNat, by omega⟩
    have hk : k < d.blocks := by omega
    rw [put_in hk]
    cases hoff : d.off with
    | true =>
      rw [if_pos rfl]
      obtain ⟨lv, wv, kv, gs, hs0, hp⟩ := id hd
      refine write_err hd hF k bv 7 [max (k : Int) (-1)] (by decide) A fun op w1 e => ?_
      subst e
      refine on_off p op k _ _ hp.box.eleven.1 (by omega) (by omega) ?_ A hs
      rw [hp.box.at 9 (.bool d.off) rfl, hoff]
    | false =>
      rw [if_neg (by simp)]
      by_cases hl : b.length = d.size
      · rw [if_pos hl]
        exact write_in hd ho hn hF k hk hoff bv b hb hl A hsF
      · rw [if_neg hl]
        exact write_form hd hF k (by omega) (by omega) hoff bv b hb hl A hs
theorem flush_does {F : Nat → Prop} {w : World} {p n : Nat} {d : Bk.Disk} (hd : DiskAt F w p d) (ho : Bk.Ok n d) (hF : Held F w) (A : Nat → Addr) (hsF : ∀ w1, Beside F w w1 → Sents w1 A) :
    Calls Tryd.prog 25 #[.pointer (some ⟨p, 0, none⟩)] w (Does F w A p (Bk.flush d).1 (Bk.flush d).2) := by
  have hs := hsF w (Beside.refl _ _)
  unfold Bk.flush
  cases hoff : d.off with
  | true =>
    rw [if_pos rfl]
    exact flush_off (n := n) hd hF hoff A hs
  | false =>
    rw [if_neg (by simp)]
    by_cases hb : Bk.blows d
    · rw [if_pos hb]
      exact flush_blow hd ho hF hoff hb A hs hsF
    · rw [if_neg hb]
      exact flush_ok hd ho hF hoff hb A
theorem arm_does {F : Nat → Prop} {w : World} {p : Nat} {d : Bk.Disk} (hd : DiskAt F w p d) (hF : Held F w) (after which cut : Int) (keepV : Value) (keep : List Bool) (hk : RowAt eBool w keepV keep) (hkl : keep.length ≤ 140737488355328) (A : Nat → Addr) (hs : Sents w A) :
    Calls Tryd.prog 29 #[.pointer (some ⟨p, 0, none⟩), .int .i64 after, keepV, .int .i64 which, .int .i64 cut] w (Does F w A p (Bk.arm d after keep which cut).1 (Bk.arm d after keep which cut).2) := by
  by_cases ha : after < 0
  · unfold Bk.arm
    rw [if_pos ha]
    exact arm_neg hd hF after which cut ha keepV A hs
  · have e : (Bk.arm d after keep which cut).2 = 0 := by unfold Bk.arm; rw [if_neg ha]
    rw [e]
    exact arm_ok hd hF after which cut (by omega) keepV keep hk hkl A
end Go.Proofs.YtflbioiildndoaaDoor
