/- block: New -/
import Derived.Test.YtflbioiildndoaaDoorBlock9
namespace Go.Proofs.YtflbioiildndoaaDoor
open Go.RowKit
set_option linter.unusedVariables false
set_option linter.unusedSimpArgs false

theorem step_make_bytes {o : Oper} {a : Act} {w : World} {K : Act → World → Prop} {Q : Exit → Act → World → Prop} (l c : Operand) (hop : o.op = Op.makeSlice 32 l c)
    (n : Nat) (hl : a.eval l = .int .i64 (n : Int)) (hc : a.eval c = .int .i64 (n : Int)) (hb : n ≤ 140737488355328)
    (h : ∀ w', Own w' w.heap.size (.slice (some ⟨w.heap.size, 0, none⟩) n n) (List.replicate n 0) → w.grownBy w' none → K (a.put o.dst (.slice (some ⟨w.heap.size, 0, none⟩) n n)) w') : o.wp Tryd.prog a w K Q := by
  obtain ⟨i0, hi, hz0, hz1, hz2⟩ := info_parts Tryd.infoByte
  obtain ⟨w', hrun, r1, r2⟩ := run_make_full (P := Tryd.prog) w w.heap.size 32 5 i0 (.int .u8 0) 1 Tryd.underlying32 hi hz0 hz1 .i64 .i64 n (by rw [hz2]; omega) (by unfold maxLen; omega) (Nat.le_refl _)
  unfold Oper.wp
  simp [execOp, hop, hl, hc, hrun, Result.andThen]
  refine h w' ?_ r2
  unfold Own
  have e : (madeCells (Value.cells (.int .u8 0)) (n * 1)).toList = bytesV (List.replicate n 0) := by
    show (madeCells #[Value.int .u8 0] (n * 1)).toList = _
    rw [toList_madeCells_one]
    simp [bytesV]
  rw [e] at r1
  rw [List.length_replicate]
  exact r1
theorem new_bad4 (b s : Int) (h : rightG b s = false) (w : World) (A : Nat → Addr) (hs : Sents w A) :
    Calls Tryd.prog 13 #[.agg #[.int .i64 b, .int .i64 s]] w fun e w' => (∃ E, e = .returned (.tuple #[.pointer none, E]) ∧ ErrIs w' A w.heap.size [-1] 2 E) ∧ Below w.heap.size w w' := by
  have HH := Lib.hid h
  have HS := Lib.hid hs
  clear h hs
  go_enter Tryd.func13, Tryd.ntmps13
  go_upto_region 2 with (go_at_call 15; (refine (blockRight_is b s false HH.out _).mono ?_); (rintro e w1 ⟨rfl, hb1⟩))
  have hbw := ((Below.refl w.heap.size w).alloc (Nat.le_refl _) (.cells #[.int .i64 b, .int .i64 s] 23)).trans (hb1.mono (by simp))
  have hs1 := HS.out.below hbw
  have g2 : w1.cell? ⟨0, 0, none⟩ = some (.iface 171 (.pointer (some (A 2)))) := hs1.cell 2 (by decide) (by decide)
  have HE := Lib.hid (sent_err (w := w1) (A := A) (B := w1.heap.size) 2 (by decide) (by decide))
  have HB1 := Lib.hid hbw
  clear hb1 hbw hs1
  go_wp2_with (go_at_call 54; refine (faultNew_any _ 2 _ _ A w1.heap.size HE.out (by decide) (Nat.le_refl _)).mono ?_; rintro e w' ⟨⟨v, rfl, hv⟩, hb⟩)
  go_ret2
  exact ⟨⟨_, rfl, hv.mono HB1.out.size⟩, below_step HB1.out hb⟩
/-- a new disk, all of it in new memory -/
def GivesD (w : World) (b s : Nat) (e : Ending) (w' : World) : Prop := ∃ p, e = .returned (.tuple #[.pointer (some ⟨p, 0, none⟩), .nilIface]) ∧ DiskAt (fun k => w.heap.size ≤ k ∧ k < w'.heap.size) w' p (Bk.new b s)
set_option maxRecDepth 100000 in
theorem new_ok4 (b s : Nat) (hb : 8 ≤ b ∧ b ≤ 256) (hs : 256 ≤ s ∧ s ≤ 1024) (w : World) :
    Calls Tryd.prog 13 #[.agg #[.int .i64 (b : Int), .int .i64 (s : Int)]] w fun e w' => GivesD w b s e w' ∧ Below w.heap.size w w' := by
  have HH := Lib.hid (rightG_iff.2 (show 8 ≤ (b : Int) ∧ (b : Int) ≤ 256 ∧ 256 ≤ (s : Int) ∧ (s : Int) ≤ 1024 by omega))
  go_enter Tryd.func13, Tryd.ntmps13
  go_upto_region 3 with (go_at_call 15; (refine (blockRight_is _ _ true HH.out _).mono ?_); (rintro e w1 ⟨rfl, hb1⟩))
  have hx1 := (BoxAt.new w [.int .i64 (b : Int), .int .i64 (s : Int)] 23).below hb1
  have hbw := ((Below.refl w.heap.size w).alloc (Nat.le_refl _) (.cells #[.int .i64 (b : Int), .int .i64 (s : Int)] 23)).trans (hb1.mono (by simp))
  have hsz1 := hb1.size
  simp at hsz1
  obtain ⟨x0, x1⟩ := hx1.two
  have HX := Lib.hid hx1
  have HB := Lib.hid hbw
  clear hb1 hbw hx1
  go_upto_region 4 with fail
  refine wp_name fun W hW => ?_
  obtain ⟨p, hp⟩ : ∃ p, w1.heap.size = p := ⟨_, rfl⟩
  have hN : NewP w W p b s 0 (.slice none 0 0) [] := by
    refine ⟨?_, OwnR.nil _ _ _, rfl, fun i g hg => (by cases hg), by simp [Value.ownBlock], by omega, by rw [hW]; exact HB.out.alloc HB.out.size _⟩
    rw [hW]
    exact BoxAt.newAt _ _ hp [_, _, _, _, _, _, _, _, _, _, _] _
  have hgx : BoxAt W w.heap.size [.int .i64 (b : Int), .int .i64 (s : Int)] := by rw [hW]; exact HX.out.alloc _
  have HN := Lib.hid hN
  have HGX := Lib.hid hgx
  have hpw : w.heap.size + 1 ≤ p := by omega
  rw [hp]
  clear hW hN hgx x0 x1 hp hsz1
  obtain ⟨y0, y1⟩ := HGX.out.two
  go_wp2_with fail
  go_loopw [15] (fun x wr => ∃ k : Nat, k ≤ b ∧ x = .int .i64 (k : Int) ∧ (∃ lv gs, NewP w wr p b s k lv gs) ∧ BoxAt wr w.heap.size [.int .i64 (b : Int), .int .i64 (s : Int)]) (fun x _ => b - (intOf x).toNat)
  case atStart => exact ⟨0, Nat.zero_le _, rfl, ⟨_, _, HN.out⟩, HGX.out⟩
  case round =>
    obtain ⟨k, hk, rfl, ⟨lv, gs, hn⟩, hg⟩ := hrel
    obtain ⟨m0, -, m2, -⟩ := hn.box.eleven
    have hplt := hn.box.lt
    have hwp : some p ≠ lv.ownBlock := fun e => by have := (hn.last.lt p e.symm).1; omega
    have HWP := Lib.hid hwp
    have HNR := Lib.hid hn
    have HG := Lib.hid hg
    have hgl := hn.glen
    have hgl2 : gs.length ≤ 256 := by omega
    clear y0 y1 hwp hgl
    obtain ⟨y0, y1⟩ := hg.two
    clear hn hg
    by_cases hlt : k < b
    · have hlt1 : (k : Int) < (b : Int) := by omega
      go_upto_region 6 with fail
      have hgw : lv.ownBlock ≠ some w.heap.size := fun e => by have := (HNR.out.last.lt _ e).1; omega
      have n2 := Near.cell (w := wr.drew) (row := lv.ownBlock) m2 (by have := HWP.out; exact fun e => this e.symm)
      have n3 := Near.cell (w := wr.drew) (row := lv.ownBlock) y1 hgw
      have HGW := Lib.hid hgw
      clear hgw
      refine wp_region_mix (fun w' => ∃ x : Near wr.drew lv.ownBlock, w' = x.world) [12] 13 (by kernel_rfl) rfl ?_
      refine mix_reads_lit [0, 1, 2, 3, 4, 5, 6] 6 (by kernel_rfl) (by kernel_rfl) (by kernel_rfl) (by kernel_rfl) rfl (NearC.of (World.grownBy.refl _ _)) ?_
      simp only [pick, List.filterMap_cons, List.filterMap_nil, List.getElem?_cons_succ, List.getElem?_cons_zero]
      repeat (first | go_big_quiet_step (fail) | quiet_step (fail))
      refine wpQuiet_nil ?_
      refine mix_deed_lit 7 5 (by kernel_rfl) (by kernel_rfl) rfl (fun K hK => ?_)
      simp only [comesUp, List.getElem?_cons_succ, List.getElem?_cons_zero]
      refine if_mk rfl ?_
      refine step_make_bytes (.tmp 23) (.tmp 23) rfl s rfl rfl (by omega) ?_
      intro w2 hob hg2
      have gb1 : wr.drew.grownBy w2 lv.ownBlock := hg2.but _
      have HOB := Lib.hid hob
      have hlt2 : wr.heap.size < w2.heap.size := (hob.lt _ rfl).2
      have hszd : wr.drew.heap.size = wr.heap.size := rfl
      rw [hszd]
      refine hK _ _ (fun _ _ => NearC.of gb1) ?_
      clear hK K hob
      refine mix_deed_lit 8 4 (by kernel_rfl) (by kernel_rfl) rfl (fun K hK => ?_)
      simp only [comesUp, List.getElem?_cons_succ, List.getElem?_cons_zero]
      refine if_mk rfl ?_
      go_simp
      have gb2 : wr.drew.grownBy (w2.alloc (.cells #[.slice (some ⟨wr.heap.size, 0, none⟩) s s] 32)) lv.ownBlock := grown_trans gb1 (grown_alloc _ _ _)
      refine hK _ _ (fun _ _ => NearC.of gb2) ?_
      clear hK K
      have hll : OwnR (eBk s) w2 (p + 1) lv gs := (HNR.out.last.drew).grown hg2 (by cases lv.ownBlock <;> simp)
      have HLL := Lib.hid (hll.alloc (.cells #[.slice (some ⟨wr.heap.size, 0, none⟩) s s] 32))
      have HGB := Lib.hid gb2
      have hpw2 : p + 1 ≤ w2.heap.size := by omega
      clear hll gb1 gb2 hg2
      refine mix_deed_lit 9 3 (by kernel_rfl) (by kernel_rfl) rfl (fun K hK => ?_)
      simp only [comesUp, List.getElem?_cons_succ, List.getElem?_cons_zero]
      refine if_mk rfl ?_
      refine step_append_near (eBk s) (eBk_ok _) (.tmp 21) (.tmp 25) rfl (p + 1) lv gs rfl HLL.out [(wr.heap.size, s)] (RowAt.one (E := eBk s) w2 (wr.heap.size, s) #[.slice (some ⟨wr.heap.size, 0, none⟩) s s] 32 rfl w2.heap.size rfl) (by simp; omega) (by simp; omega) (by simp; omega) ?_
      intro v3 w3 ho3 hg3 hn3
      obtain ⟨a3, c3, rfl, -, -⟩ := ho3.slice
      have gb3 := grown_trans HGB.out hg3
      have hbx : BoxAt w3 p (cellsD { Bk.new b s with lasting := List.replicate k (Bk.zeros s) } lv (.slice none 0 0) (.slice none 0 0)) := (show BoxAt wr.drew p _ from HNR.out.box).grownR gb3 (fun e => HWP.out e.symm)
      have hgx3 : BoxAt w3 w.heap.size [.int .i64 (b : Int), .int .i64 (s : Int)] := (show BoxAt wr.drew w.heap.size _ from HG.out).grownR gb3 HGW.out
      refine hK _ _ (fun _ _ => NearC.of gb3) ?_
      clear hK K
      refine mix_reads_lit [10, 11] 1 (by kernel_rfl) (by kernel_rfl) (by kernel_rfl) (by kernel_rfl) rfl (NearC.of gb3) ?_
      simp only [pick, List.filterMap_cons, List.filterMap_nil, List.getElem?_cons_succ, List.getElem?_cons_zero]
      repeat (first | go_big_quiet_step (fail) | quiet_step (fail))
      refine wpQuiet_nil ?_
      have q3 := hbx.at 2 lv rfl
      have r3 := hbx.free 2 lv rfl
      have HBX := Lib.hid hbx
      have HGX3 := Lib.hid hgx3
      have HO3 := Lib.hid ho3
      have HG3 := Lib.hid gb3
      have HN3 := Lib.hid hn3
      have HGL := Lib.hid hg3
      have hs3 := hg3.size
      simp at hs3
      clear hbx ho3 hg3 hn3 gb3 hgx3
      refine mix_deed_lit 12 0 (by kernel_rfl) (by kernel_rfl) rfl (fun K hK => ?_)
      simp only [comesUp, List.getElem?_cons_succ, List.getElem?_cons_zero]
      refine if_mk rfl ?_
      go_simp
      refine hK _ _ (fun h => by simp [keeps] at h) ?_
      clear hK K
      refine mix_done_lit (by kernel_rfl) ?_
      go_upto_region 7 with fail
      refine wp_name fun V hV => ?_
      have hVb : ∀ k, k ≠ p → V.heap[k]? = w3.heap[k]? := fun k hk => by rw [hV]; exact heap_set_ne (fun e => hk e.symm)
      have hVs : V.heap.size = w3.heap.size := by rw [hV]; simp
      have hbxV : BoxAt V p (cellsD { Bk.new b s with lasting := List.replicate (k + 1) (Bk.zeros s) } (.slice a3 (gs.length + 1) c3) (.slice none 0 0) (.slice none 0 0)) := by rw [hV]; exact HBX.out.put 2 _
      have hVo : V.os = wr.os ∧ V.tape = wr.tape ∧ V.output = wr.output := by rw [hV]; exact ⟨HG3.out.os, HG3.out.tape, HG3.out.output⟩
      have hgxV : BoxAt V w.heap.size [.int .i64 (b : Int), .int .i64 (s : Int)] := by rw [hV]; exact HGX3.out.set (by omega) _ _
      clear hV
      have HWL := Lib.hid (fun k (hk : lv.ownBlock = some k) => HNR.out.last.lt k hk)
      have hown : Own V (p + 1) (.slice (some ⟨wr.heap.size, 0, none⟩) s s) (Bk.zeros s) := by
        have h1 : Own w2 (p + 1) (.slice (some ⟨wr.heap.size, 0, none⟩) s s) (Bk.zeros s) := HOB.out.mono (by show p + 1 ≤ wr.heap.size; omega)
        refine h1.on fun k hk => ?_
        obtain rfl : wr.heap.size = k := Option.some.inj hk
        rw [hVb _ (by omega), HGL.out.block _ (by simp; omega) (fun e => by have := (HWL.out _ e.symm).2; omega), Below.heap_alloc _ _ _ hlt2]
      have hnear : ∀ k, (Value.slice a3 (gs.length + 1) c3).ownBlock = some k → lv.ownBlock = some k ∨ w2.heap.size + 1 ≤ k := by
        intro k hk
        have hk' : (Value.slice a3 (gs ++ [(wr.heap.size, s)]).length c3).ownBlock = some k := by simpa using hk
        rcases HN3.out with h | h
        · exact .inl (h.symm.trans hk')
        · exact .inr (by simpa using h k hk')
      have hnear2 : (Value.slice a3 (gs.length + 1) c3).ownBlock = lv.ownBlock ∨ ∀ k, (Value.slice a3 (gs.length + 1) c3).ownBlock = some k → wr.heap.size ≤ k := by
        rcases HN3.out with h | h
        · exact .inl (by simpa using h)
        · exact .inr fun k hk => by
            have hk' : (Value.slice a3 (gs ++ [(wr.heap.size, s)]).length c3).ownBlock = some k := by simpa using hk
            have := h k hk'
            simp at this
            omega
      have hlastV : OwnR (eBk s) V (p + 1) (.slice a3 (gs.length + 1) c3) (gs ++ [(wr.heap.size, s)]) := by
        have h := HO3.out
        simp only [List.length_append, List.length_cons, List.length_nil, Nat.zero_add] at h
        refine h.on fun k hk => hVb k fun e => ?_
        rcases hnear k hk with h | h
        · exact HWP.out (by rw [h, e])
        · omega
      have hbel : Below w.heap.size w V := by
        refine HNR.out.below.trans ⟨hVo.1, hVo.2.1, hVo.2.2, by omega, fun k hk => ?_⟩
        have hkp : k ≠ p := by have := HNR.out.low; omega
        rw [hVb k hkp, HG3.out.block k (by show k < wr.heap.size; have := HNR.out.low; omega) (fun e => by have := (HWL.out _ e.symm).1; have := HNR.out.low; omega)]
        rfl
      have HNX := Lib.hid (HNR.out.next (w' := V) (g := (wr.heap.size, s)) (lv' := .slice a3 (gs.length + 1) c3) (fun i hi h1 h2 => by
        rw [hVb i h1, HG3.out.block i hi (fun e => h2 e.symm)]; rfl) hbxV hlastV hnear2 hown (Nat.le_refl _) (fun e => by
          rcases hnear _ e with h | h
          · have := (HWL.out _ h).2; omega
          · omega) hbel)
      have HGV := Lib.hid hgxV
      clear hbxV hVo hgxV hVb hVs hown hnear hnear2 hlastV hbel q3 r3 m0 m2 y0 y1 hszd
      go_wp2_with fail
      go_roundw
      case rel => exact ⟨k + 1, by omega, by go_num, ⟨_, _, HNX.out⟩, HGV.out⟩
      case measure => simp [intOf]; omega
    · obtain rfl : k = b := by omega
      clear m0 m2 y0 y1
      go_wp2_with fail
      go_ret2
      exact ⟨⟨p, rfl, HNR.out.disk⟩, HNR.out.below⟩
end Go.Proofs.YtflbioiildndoaaDoor
