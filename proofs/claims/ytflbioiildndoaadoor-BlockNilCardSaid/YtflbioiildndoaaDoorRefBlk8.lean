/- the document's disks: New -/
import Derived.Test.YtflbioiildndoaaDoorRefBlk7
namespace Go.Proofs.YtflbioiildndoaaDoor
open Go.RowKit
set_option linter.unusedVariables false
set_option linter.unusedSimpArgs false

/-- a new disk by value -/
theorem NewP.ref {w0 wr : World} {p b s : Nat} {lv : Value} {gs : List (Nat × Nat)} (h : NewP w0 wr p b s b lv gs) : DiskR (fun k => p + 1 ≤ k ∧ k < wr.heap.size) wr (Bk.new b s) lv (.slice none 0 0) (.slice none 0 0) (gs.map fun g => (some ⟨g.1, 0, none⟩, s, g.2)) [] where
  last := by
    obtain ⟨a, c, e, h1, h2, h3⟩ := h.last.at (eBk_ok s)
    refine ⟨a, c, by simpa using e, by simpa using h1, h2, ?_⟩
    rcases h3 with h3 | ⟨g, o, rfl, hc⟩
    · exact .inl (by rw [h3]; rfl)
    · refine .inr ⟨g, o, rfl, fun i x hx j u hu => ?_⟩
      rw [List.getElem?_map] at hx
      cases hy : gs[i]? with
      | none => rw [hy] at hx; cases hx
      | some y =>
        rw [hy] at hx
        cases hx
        exact hc i y hy j u hu
  wait := RowAt.nil _ _
  keep := RowAt.nil _ _
  lastG := h.last.lt
  waitG := fun k hk => by cases hk
  keepG := .inl rfl
  xlen := by simp [Bk.new, h.glen]
  xeach := by
    intro i x y hx hy
    rw [List.getElem?_map] at hx
    simp only [Bk.new, List.getElem?_replicate] at hy
    split at hy
    · cases hy
      cases hz : gs[i]? with
      | none => rw [hz] at hx; cases hx
      | some g =>
        rw [hz] at hx
        cases hx
        exact ⟨(h.each i g hz).bytes, (h.each i g hz).lt⟩
    · cases hy
  ylen := rfl
  yeach := fun i y z hy => by cases hy
set_option maxRecDepth 100000 in
theorem refNew4 (b s : Nat) (hb : 8 ≤ b ∧ b ≤ 256) (hs : 256 ≤ s ∧ s ≤ 1024) (w : World) :
    Calls Tryd.prog 59 #[.agg #[.int .i64 (b : Int), .int .i64 (s : Int)]] w fun e w' => GivesR (fun _ => False) w (Bk.new b s) e w' ∧ Below w.heap.size w w' := by
  go_enter Tryd.func59, Tryd.ntmps59
  go_upto_region 2 with fail
  refine wp_name fun W hW => ?_
  obtain ⟨p, hp⟩ : ∃ p, w.heap.size + 1 + 1 = p := ⟨_, rfl⟩
  have hN : NewP w W p b s 0 (.slice none 0 0) [] := by
    refine ⟨?_, OwnR.nil _ _ _, rfl, fun i g hg => (by cases hg), by simp [Value.ownBlock], by omega, by rw [hW]; go_grown⟩
    rw [hW]
    exact BoxAt.newAt _ _ (by simp; omega) [_, _, _, _, _, _, _, _, _, _, _] _
  have hgx : BoxAt W w.heap.size [.int .i64 (b : Int), .int .i64 (s : Int)] := by rw [hW]; exact ((BoxAt.new w [_, _] _).alloc _).alloc _
  have hgz : BoxAt W (w.heap.size + 1) zeroD := by rw [hW]; exact (BoxAt.newAt _ _ (by simp) [_, _, _, _, _, _, _, _, _, _, _] _).alloc _
  have HN := Lib.hid hN
  have HGX := Lib.hid hgx
  have HGZ := Lib.hid hgz
  have hpw : w.heap.size + 1 ≤ p := by omega
  have hpw2 : w.heap.size + 1 < p := by omega
  rw [hp]
  clear hW hN hgx hgz hp
  obtain ⟨y0, y1⟩ := HGX.out.two
  go_wp2_with fail
  go_loopw [4] (fun x wr => ∃ k : Nat, k ≤ b ∧ x = .int .i64 (k : Int) ∧ (∃ lv gs, NewP w wr p b s k lv gs) ∧ BoxAt wr w.heap.size [.int .i64 (b : Int), .int .i64 (s : Int)] ∧ BoxAt wr (w.heap.size + 1) zeroD) (fun x _ => b - (intOf x).toNat)
  case atStart => exact ⟨0, Nat.zero_le _, rfl, ⟨_, _, HN.out⟩, HGX.out, HGZ.out⟩
  case round =>
    obtain ⟨k, hk, rfl, ⟨lv, gs, hn⟩, hg, hgz⟩ := hrel
    obtain ⟨m0, -, m2, -⟩ := hn.box.eleven
    have hplt := hn.box.lt
    have hwp : some p ≠ lv.ownBlock := fun e => by have := (hn.last.lt p e.symm).1; omega
    have HWP := Lib.hid hwp
    have HNR := Lib.hid hn
    have HG := Lib.hid hg
    have HZ := Lib.hid hgz
    have hgl := hn.glen
    have hgl2 : gs.length ≤ 256 := by omega
    clear y0 y1 hwp hgl
    obtain ⟨y0, y1⟩ := hg.two
    clear hn hg hgz
    by_cases hlt : k < b
    · have hlt1 : (k : Int) < (b : Int) := by omega
      go_upto_region 5 with fail
      have hgw : lv.ownBlock ≠ some w.heap.size := fun e => by have := (HNR.out.last.lt _ e).1; omega
      have n2 := Near.cell (w := wr.drew) (row := lv.ownBlock) m2 (by have := HWP.out; exact fun e => this e.symm)
      have n3 := Near.cell (w := wr.drew) (row := lv.ownBlock) y1 hgw
      have HGW := Lib.hid hgw
      have hgw2 : lv.ownBlock ≠ some (w.heap.size + 1) := fun e => by have := (HNR.out.last.lt _ e).1; omega
      have HGW2 := Lib.hid hgw2
      clear hgw2
      clear hgw
      refine wp_region_mix (fun w' => ∃ x : Near wr.drew lv.ownBlock, w' = x.world) [8] 9 (by kernel_rfl) rfl ?_
      refine mix_reads_lit [0, 1, 2, 3] 5 (by kernel_rfl) (by kernel_rfl) (by kernel_rfl) (by kernel_rfl) rfl (NearC.of (World.grownBy.refl _ _)) ?_
      simp only [pick, List.filterMap_cons, List.filterMap_nil, List.getElem?_cons_succ, List.getElem?_cons_zero]
      repeat (first | go_big_quiet_step (fail) | quiet_step (fail))
      refine wpQuiet_nil ?_
      refine mix_deed_lit 4 4 (by kernel_rfl) (by kernel_rfl) rfl (fun K hK => ?_)
      simp only [comesUp, List.getElem?_cons_succ, List.getElem?_cons_zero]
      refine if_mk rfl ?_
      refine step_make_bytes (.tmp 16) (.tmp 16) rfl s rfl rfl (by omega) ?_
      intro w2 hob hg2
      have gb1 : wr.drew.grownBy w2 lv.ownBlock := hg2.but _
      have HOB := Lib.hid hob
      have hlt2 : wr.heap.size < w2.heap.size := (hob.lt _ rfl).2
      have hszd : wr.drew.heap.size = wr.heap.size := rfl
      rw [hszd]
      refine hK _ _ (fun _ _ => NearC.of gb1) ?_
      clear hK K hob
      refine mix_deed_lit 5 3 (by kernel_rfl) (by kernel_rfl) rfl (fun K hK => ?_)
      simp only [comesUp, List.getElem?_cons_succ, List.getElem?_cons_zero]
      refine if_mk rfl ?_
      go_simp
      have gb2 : wr.drew.grownBy (w2.alloc (.cells #[.slice (some ⟨wr.heap.size, 0, none⟩) s s] 32)) lv.ownBlock := grown_trans gb1 (grown_alloc _ _ _)
      refine hK _ _ (fun _ _ => NearC.of gb2) ?_
      clear hK K
      have hll : OwnR (eBk s) w2 (p + 1) lv gs := (HNR.out.last.drew).grown hg2 (by cases lv.ownBlock <;> simp)
      have HLL := Lib.hid (hll.alloc (.cells #[.slice (some ⟨wr.heap.size, 0, none⟩) s s] 32))
      have HGB := Lib.hid gb2
      have hpw2 : p + 1 ≤ w2.heap.size := by omega
      clear hll gb1 gb2 hg2
      refine mix_deed_lit 6 2 (by kernel_rfl) (by kernel_rfl) rfl (fun K hK => ?_)
      simp only [comesUp, List.getElem?_cons_succ, List.getElem?_cons_zero]
      refine if_mk rfl ?_
      refine step_append_near (eBk s) (eBk_ok _) (.tmp 14) (.tmp 18) rfl (p + 1) lv gs rfl HLL.out [(wr.heap.size, s)] (RowAt.one (E := eBk s) w2 (wr.heap.size, s) #[.slice (some ⟨wr.heap.size, 0, none⟩) s s] 32 rfl w2.heap.size rfl) (by simp; omega) (by simp; omega) (by simp; omega) ?_
      intro v3 w3 ho3 hg3 hn3
      obtain ⟨a3, c3, rfl, -, -⟩ := ho3.slice
      have gb3 := grown_trans HGB.out hg3
      have hbx : BoxAt w3 p (cellsD { Bk.new b s with lasting := List.replicate k (Bk.zeros s) } lv (.slice none 0 0) (.slice none 0 0)) := (show BoxAt wr.drew p _ from HNR.out.box).grownR gb3 (fun e => HWP.out e.symm)
      have hgx3 : BoxAt w3 w.heap.size [.int .i64 (b : Int), .int .i64 (s : Int)] := (show BoxAt wr.drew w.heap.size _ from HG.out).grownR gb3 HGW.out
      refine hK _ _ (fun _ _ => NearC.of gb3) ?_
      clear hK K
      refine mix_reads_lit [7] 1 (by kernel_rfl) (by kernel_rfl) (by kernel_rfl) (by kernel_rfl) rfl (NearC.of gb3) ?_
      simp only [pick, List.filterMap_cons, List.filterMap_nil, List.getElem?_cons_succ, List.getElem?_cons_zero]
      repeat (first | go_big_quiet_step (fail) | quiet_step (fail))
      refine wpQuiet_nil ?_
      have q3 := hbx.at 2 lv rfl
      have r3 := hbx.free 2 lv rfl
      have HBX := Lib.hid hbx
      have HGX3 := Lib.hid hgx3
      have HGZ3 := Lib.hid ((show BoxAt wr.drew (w.heap.size + 1) zeroD from HZ.out).grownR gb3 HGW2.out)
      have HO3 := Lib.hid ho3
      have HG3 := Lib.hid gb3
      have HN3 := Lib.hid hn3
      have HGL := Lib.hid hg3
      have hs3 := hg3.size
      simp at hs3
      clear hbx ho3 hg3 hn3 gb3 hgx3
      refine mix_deed_lit 8 0 (by kernel_rfl) (by kernel_rfl) rfl (fun K hK => ?_)
      simp only [comesUp, List.getElem?_cons_succ, List.getElem?_cons_zero]
      refine if_mk rfl ?_
      go_simp
      refine hK _ _ (fun h => by simp [keeps] at h) ?_
      clear hK K
      refine mix_done_lit (by kernel_rfl) ?_
      go_upto_region 4 with fail
      refine wp_name fun V hV => ?_
      have hVb : ∀ k, k ≠ p → V.heap[k]? = w3.heap[k]? := fun k hk => by rw [hV]; exact heap_set_ne (fun e => hk e.symm)
      have hVs : V.heap.size = w3.heap.size := by rw [hV]; simp
      have hbxV : BoxAt V p (cellsD { Bk.new b s with lasting := List.replicate (k + 1) (Bk.zeros s) } (.slice a3 (gs.length + 1) c3) (.slice none 0 0) (.slice none 0 0)) := by rw [hV]; exact HBX.out.put 2 _
      have hVo : V.os = wr.os ∧ V.tape = wr.tape ∧ V.output = wr.output := by rw [hV]; exact ⟨HG3.out.os, HG3.out.tape, HG3.out.output⟩
      have hgxV : BoxAt V w.heap.size [.int .i64 (b : Int), .int .i64 (s : Int)] := by rw [hV]; exact HGX3.out.set (by omega) _ _
      have HGZV := Lib.hid (show BoxAt V (w.heap.size + 1) zeroD by rw [hV]; exact HGZ3.out.set (by omega) _ _)
      clear hV
      have HWL := Lib.hid (fun k (hk : lv.ownBlock = some k) => HNR.out.last.lt k hk)
      have hown : Own V (p + 1) (.slice (some ⟨wr.heap.size, 0, none⟩) s s) (Bk.zeros s) := by
        have h1 : Own w2 (p + 1) (.slice (some ⟨wr.heap.size, 0, none⟩) s s) (Bk.zeros s) := HOB.out.mono (by show p + 1 ≤ wr.heap.size; omega)
        refine h1.on fun k hk => ?_
        obtain rfl : wr.heap.size = k := Option.some.inj hk
        rw [hVb _ (by omega), HGL.out.block _ (by simp; omega) (fun e => by have := (HWL.out _ e.symm).2; omega), Below.heap_alloc _ _ _ hlt2]
      have hnear : ∀ k, (Value.slice a3 (gs.length + 1) c3).ownBlock = some k → lv.ownBlock = some k ∨ w2.heap.size + 1 ≤ k := by
        intro k hk
        have hk' : (Value.slice a3 (gs ++ [(wr.heap.size, s)]).length c3).ownBlock = some k := by simpa using hk
        rcases HN3.out with h | h
        · exact .inl (h.symm.trans hk')
        · exact .inr (by simpa using h k hk')
      have hnear2 : (Value.slice a3 (gs.length + 1) c3).ownBlock = lv.ownBlock ∨ ∀ k, (Value.slice a3 (gs.length + 1) c3).ownBlock = some k → wr.heap.size ≤ k := by
        rcases HN3.out with h | h
        · exact .inl (by simpa using h)
        · exact .inr fun k hk => by
            have hk' : (Value.slice a3 (gs ++ [(wr.heap.size, s)]).length c3).ownBlock = some k := by simpa using hk
            have := h k hk'
            simp at this
            omega
      have hlastV : OwnR (eBk s) V (p + 1) (.slice a3 (gs.length + 1) c3) (gs ++ [(wr.heap.size, s)]) := by
        have h := HO3.out
        simp only [List.length_append, List.length_cons, List.length_nil, Nat.zero_add] at h
        refine h.on fun k hk => hVb k fun e => ?_
        rcases hnear k hk with h | h
        · exact HWP.out (by rw [h, e])
        · omega
      have hbel : Below w.heap.size w V := by
        refine HNR.out.below.trans ⟨hVo.1, hVo.2.1, hVo.2.2, by omega, fun k hk => ?_⟩
        have hkp : k ≠ p := by have := HNR.out.low; omega
        rw [hVb k hkp, HG3.out.block k (by show k < wr.heap.size; have := HNR.out.low; omega) (fun e => by have := (HWL.out _ e.symm).1; have := HNR.out.low; omega)]
        rfl
      have HNX := Lib.hid (HNR.out.next (w' := V) (g := (wr.heap.size, s)) (lv' := .slice a3 (gs.length + 1) c3) (fun i hi h1 h2 => by
        rw [hVb i h1, HG3.out.block i hi (fun e => h2 e.symm)]; rfl) hbxV hlastV hnear2 hown (Nat.le_refl _) (fun e => by
          rcases hnear _ e with h | h
          · have := (HWL.out _ h).2; omega
          · omega) hbel)
      have HGV := Lib.hid hgxV
      clear hbxV hVo hgxV hVb hVs hown hnear hnear2 hlastV hbel q3 r3 m0 m2 y0 y1 hszd
      go_wp2_with fail
      go_roundw
      case rel => exact ⟨k + 1, by omega, by go_num, ⟨_, _, HNX.out⟩, HGV.out, HGZV.out⟩
      case measure => simp [intOf]; omega
    · obtain rfl : k = b := by omega
      clear m0 m2
      obtain ⟨a3, c3, rfl, -, -⟩ := HNR.out.last.slice
      obtain ⟨x0, x1, x2, x3, x4, x5, x6, x7, x8, x9, x10⟩ := HNR.out.box.eleven
      obtain ⟨z0, z1, z2, z3, z4, z5, z6, z7, z8, z9, z10⟩ := HZ.out.eleven
      obtain ⟨fz0, fz1, fz2, fz3, fz4, fz5, fz6, fz7, fz8, fz9, fz10⟩ := HZ.out.elevenF
      go_wp2_with fail
      refine bodyPost_ret (v := refD (Bk.new k s) (.slice a3 gs.length c3) (.slice none 0 0) (.slice none 0 0)) (by simp [results, Tryd.results59, go_sem, refD, Bk.new, z0, z1, z2, z3, z4, z5, z6, z7, z8, z9, z10]) rfl ?_
      have hD := HNR.out.ref
      have hsz := HNR.out.below.size
      have hlt : ∀ j, (p + 1 ≤ j ∧ j < wr.heap.size) → w.heap.size + 1 ≠ j := fun j hj => by omega
      refine ⟨⟨_, rfl, _, _, _, _, _, rfl, (hD.on fun j hj => ?_).mono fun j hj => .inr ⟨by omega, by simp; omega⟩⟩, ?_⟩
      · have h1 := hlt j hj
        repeat (first | rw [heap_set_ne h1])
      · have h1 := HNR.out.below
        repeat (first | refine Below.setCell ?_ (by first | exact Nat.le_refl _ | exact Nat.le_succ _) _ | exact h1)
end Go.Proofs.YtflbioiildndoaaDoor
