/- block: crash -/
import Derived.Test.YtflbioiildndoaaDoorBlock3
import Derived.Test.YtflbioiildndoaaDoorMix
namespace Go.Proofs.YtflbioiildndoaaDoor
open Go.RowKit
set_option linter.unusedVariables false
set_option linter.unusedSimpArgs false

/-- behind k of the writes that wait -/
def CrashI (F : Nat → Prop) (w : World) (p : Nat) (d : Bk.Disk) (lv wv kv : Value) (gs : List (Nat × Nat)) (hs : List (Int × Nat × Nat)) (keepV : Value) (keep : List Bool) (which cut : Int) (k : Nat) (wr : World) : Prop :=
  DiskP F wr p { d with lasting := Bk.crashK keep which cut d.waiting d.lasting k } lv wv kv gs hs ∧ Beside F w wr ∧ RowAt eBool wr keepV keep
theorem CrashI.alloc {F : Nat → Prop} {w : World} {p : Nat} {d : Bk.Disk} {lv wv kv : Value} {gs : List (Nat × Nat)} {hs : List (Int × Nat × Nat)} {keepV : Value} {keep : List Bool} {which cut : Int} {k : Nat} {wr wr' : World}
    (h : CrashI F w p d lv wv kv gs hs keepV keep which cut k wr) (hb : Below wr.heap.size wr wr') : CrashI F w p d lv wv kv gs hs keepV keep which cut k wr' :=
  ⟨h.1.on fun i hi => hb.block i (h.1.lt i hi), h.2.1.same (Beside.of_below hb), h.2.2.below hb⟩
theorem RowAt.grownR {α : Type} {E : Elem α} {w w' : World} {v : Value} {l : List α} {row : Option Nat} (h : RowAt E w v l) (hg : w.grownBy w' row) (hne : ∀ k, v.ownBlock = some k → row ≠ some k) : RowAt E w' v l := by
  obtain ⟨a, c, rfl, h1, h2, h3⟩ := h
  refine ⟨a, c, rfl, h1, h2, h3.imp id ?_⟩
  rintro ⟨b, o, rfl, hc⟩
  exact ⟨b, o, rfl, fun i x hx j u hu => hg.cell (hc i x hx j u hu) (fun e => hne b rfl e.symm)⟩
theorem DiskP.drew {F : Nat → Prop} {w : World} {p : Nat} {d : Bk.Disk} {lv wv kv : Value} {gs : List (Nat × Nat)} {hs : List (Int × Nat × Nat)} (h : DiskP F w p d lv wv kv gs hs) : DiskP F w.drew p d lv wv kv gs hs := h.on fun _ _ => rfl
theorem CrashI.drew {F : Nat → Prop} {w : World} {p : Nat} {d : Bk.Disk} {lv wv kv : Value} {gs : List (Nat × Nat)} {hs : List (Int × Nat × Nat)} {keepV : Value} {keep : List Bool} {which cut : Int} {k : Nat} {wr : World}
    (h : CrashI F w p d lv wv kv gs hs keepV keep which cut k wr) : CrashI F w p d lv wv kv gs hs keepV keep which cut k wr.drew := h.alloc (Below.refl _ _).drew
/-- a block is kept, or torn -/
theorem CrashI.next {F : Nat → Prop} {w : World} {p : Nat} {d : Bk.Disk} {lv wv kv : Value} {gs : List (Nat × Nat)} {hs : List (Int × Nat × Nat)} {keepV : Value} {keep : List Bool} {which cut : Int} {k : Nat} {wr wr' : World} {z : Nat × Bk.Blk} {g : Nat × Nat} {B : Bk.Blk}
    (h : CrashI F w p d lv wv kv gs hs keepV keep which cut k wr) (hkg : keep = [] ∨ ∀ k, keepV.ownBlock = some k → k ≠ p ∧ ∀ g ∈ gs, g.1 ≠ k) (hz : d.waiting[k]? = some z) (hgi : gs[z.1]? = some g) (hg : wr.grownBy wr' (some g.1))
    (hb : Own wr' 0 (.slice (some ⟨g.1, 0, none⟩) d.size g.2) B) (hB : Bk.crash1 keep which cut (Bk.crashK keep which cut d.waiting d.lasting k) k z = (Bk.crashK keep which cut d.waiting d.lasting k).set z.1 B) : CrashI F w p d lv wv kv gs hs keepV keep which cut (k + 1) wr' := by
  obtain ⟨h1, h2, h3⟩ := h
  have hF : F g.1 := h1.inF _ (mem_gs hgi)
  refine ⟨?_, h2.same (Beside.of_grown hg hF), ?_⟩
  · have := h1.setLast hgi hg hb
    rw [Bk.crashK, hz]
    simp only
    rw [hB]
    exact this
  · rcases hkg with rfl | hkg
    · exact h3.ofNil
    · exact h3.grownR hg fun j hj e => by cases e; exact (hkg _ hj).2 g (List.mem_of_getElem? hgi) rfl
theorem CrashI.skip {F : Nat → Prop} {w : World} {p : Nat} {d : Bk.Disk} {lv wv kv : Value} {gs : List (Nat × Nat)} {hs : List (Int × Nat × Nat)} {keepV : Value} {keep : List Bool} {which cut : Int} {k : Nat} {wr : World} {z : Nat × Bk.Blk}
    (h : CrashI F w p d lv wv kv gs hs keepV keep which cut k wr) (hz : d.waiting[k]? = some z) (hB : Bk.crash1 keep which cut (Bk.crashK keep which cut d.waiting d.lasting k) k z = Bk.crashK keep which cut d.waiting d.lasting k) : CrashI F w p d lv wv kv gs hs keepV keep which cut (k + 1) wr := by
  obtain ⟨h1, h2, h3⟩ := h
  refine ⟨?_, h2, h3⟩
  rw [Bk.crashK, hz]
  simp only
  rw [hB]
  exact h1
theorem crashK_ok {n : Nat} {d : Bk.Disk} (ho : Bk.Ok n d) (keep : List Bool) (which cut : Int) (k : Nat) : Bk.Ok n { d with lasting := Bk.crashK keep which cut d.waiting d.lasting k } := by
  have hr := Bk.crashK_row ho.row keep which cut ho.wait k
  exact ⟨ho.b, ho.s, hr.1, hr.2, ho.wait, ho.many⟩
set_option maxRecDepth 100000 in
theorem crash_any {F : Nat → Prop} {w : World} {p n : Nat} {d : Bk.Disk} {lv wv kv : Value} {gs : List (Nat × Nat)} {hs : List (Int × Nat × Nat)} (hp : DiskP F w p d lv wv kv gs hs) (ho : Bk.Ok n d)
    (keepA : Option Addr) (keepC : Nat) (keep : List Bool) (hk : RowAt eBool w (.slice keepA keep.length keepC) keep) (hkg : keep = [] ∨ ∀ k, (Value.slice keepA keep.length keepC).ownBlock = some k → k ≠ p ∧ ∀ g ∈ gs, g.1 ≠ k) (which cut : Int) :
    Calls Tryd.prog 64 #[.pointer (some ⟨p, 0, none⟩), .slice keepA keep.length keepC, .int .i64 which, .int .i64 cut] w fun e w' => (∃ v, e = .returned v) ∧ DiskP F w' p (Bk.crash d keep which cut) lv (.slice none 0 0) kv gs [] ∧ Beside F w w' := by
  obtain ⟨lg, lc, elv, hlc, hcm⟩ := hp.lastRow ho
  subst elv
  unfold maxLen at hcm
  obtain ⟨wa, wc, ewv, hwl, hwm⟩ := hp.wait.slice
  rw [hp.hlen] at ewv hwl
  unfold maxLen at hwm
  subst ewv
  obtain ⟨m0, -, m2, m3, -, -, -, -, -, m9, -⟩ := hp.box.eleven
  have HP := Lib.hid hp
  have HOK := Lib.hid ho
  have HK := Lib.hid hk
  have HKG := Lib.hid hkg
  clear hp ho hk hkg
  go_enter Tryd.func64, Tryd.ntmps64
  go_wp2_with fail
  go_loopw [15] (fun i wr => ∃ k : Nat, k ≤ d.waiting.length ∧ i = .int .i64 (k : Int) ∧ CrashI F w p d (.slice (some ⟨lg, 0, none⟩) d.blocks lc) (.slice wa d.waiting.length wc) kv gs hs (.slice keepA keep.length keepC) keep which cut k wr) (fun i _ => d.waiting.length - (intOf i).toNat)
  case atStart => exact ⟨0, Nat.zero_le _, rfl, HP.out, Beside.refl _ _, HK.out⟩
  case round =>
    obtain ⟨k, hk, rfl, hi⟩ := hrel
    have HI := Lib.hid hi
    have ho2 := HOK.out
    clear m0 m2 m3 m9
    obtain ⟨m0, -, m2, m3, -, -, -, -, -, m9, -⟩ := hi.1.box.eleven
    by_cases hlt : k < d.waiting.length
    · obtain ⟨z, hz⟩ := getElem?_some_of_lt hlt
      obtain ⟨wg, wc2, wb, wbc, ewv, hhs, c0, c1, hown⟩ := hi.1.waitCell hz
      simp only [Value.slice.injEq, true_and] at ewv
      obtain ⟨rfl, rfl⟩ := ewv
      have hlt1 : (k : Int) < (d.waiting.length : Int) := by omega
      have hk0 : (0 : Int) ≤ (k : Int) := by omega
      have HZ := Lib.hid hz
      have HO := Lib.hid (show Own wr 0 (.slice (some ⟨wb, 0, none⟩) d.size wbc) z.2 from hown)
      have c1' : wr.cell? ⟨wg, k * 2 + 1, none⟩ = some (.slice (some ⟨wb, 0, none⟩) d.size wbc) := c1
      have hzb := ho2.wait k z hz
      clear hi hz hhs hown c1
      go_upto_region 3 with fail
      refine wp_name fun W hW => ?_
      have HX := Lib.hid (show BoxAt W wr.heap.size [.int .i64 (z.1 : Int), .slice (some ⟨wb, 0, none⟩) d.size wbc] by rw [hW]; exact BoxAt.new wr [_, _] _)
      have HIW := Lib.hid (show CrashI F w p d (.slice (some ⟨lg, 0, none⟩) d.blocks lc) (.slice (some ⟨wg, 0, none⟩) d.waiting.length wc) kv gs hs (.slice keepA keep.length keepC) keep which cut k W by rw [hW]; exact HI.out.alloc ((Below.refl _ _).alloc (Nat.le_refl _) _))
      have HBW := Lib.hid (show Below wr.heap.size wr W by rw [hW]; exact (Below.refl _ _).alloc (Nat.le_refl _) _)
      clear hW m0 m2 m3 m9
      obtain ⟨m0, -, m2, m3, -, -, -, -, -, m9, -⟩ := HIW.out.1.box.eleven
      obtain ⟨x0, x1⟩ := HX.out.two
      obtain ⟨g, hgi, hgc, hgf, hown⟩ := HIW.out.1.lastCell (crashK_ok HOK.out keep which cut k) rfl hzb.1
      by_cases hkw : (k : Int) = which
      · obtain rfl : which = (k : Int) := hkw.symm
        go_upto_region 4 with fail
        obtain ⟨LB, hLB⟩ : ∃ LB, Bk.lastB { d with lasting := Bk.crashK keep (k : Int) cut d.waiting d.lasting k } z.1 = LB := ⟨_, rfl⟩
        have hLBl : LB.length = d.size := by rw [← hLB]; exact ((crashK_ok HOK.out keep (k : Int) cut k).lastB hzb.1).1
        obtain ⟨c, hcc, hcs, hct⟩ : ∃ c : Nat, (if (0 : Int) < (if (d.size : Int) < cut then (d.size : Int) else cut) then (if (d.size : Int) < cut then (d.size : Int) else cut) else 0) = (c : Int) ∧ c ≤ d.size ∧ Bk.tornB LB z.2 cut = z.2.take c ++ LB.drop c := by
          have hzl := hzb.2
          unfold Bk.tornB
          by_cases a1 : (d.size : Int) < cut
          · refine ⟨d.size, by rw [if_pos a1]; split <;> omega, Nat.le_refl _, ?_⟩
            rw [List.take_of_length_le (by omega), List.take_of_length_le (by omega), List.drop_of_length_le (by omega), List.drop_of_length_le (by omega)]
          · by_cases a2 : 0 < cut
            · exact ⟨cut.toNat, by rw [if_neg a1, if_pos a2]; omega, by omega, rfl⟩
            · exact ⟨0, by rw [if_neg a1, if_neg a2]; rfl, by omega, by rw [show cut.toNat = 0 by omega]⟩
        have HCT := Lib.hid hct
        have HLB := Lib.hid hLB
        have hz2 := hzb.2
        have HL1 := Lib.hid (show Own W.drew 0 (.slice (some ⟨g.1, 0, none⟩) d.size g.2) LB by rw [← hLB]; exact hown)
        have HL2 := Lib.hid (show d.size = LB.length from hLBl.symm)
        have HT := Lib.hid (show BytesAt W.drew (.slice (some ⟨wb, 0, none⟩) c wbc) (z.2.take c) from BytesAt.take (n := d.size) (HO.out.bytes.below HBW.out.drew) (by omega))
        clear hct hLB hown hLBl
        have hwc : d.size ≤ wbc := by
          rcases HO.out.row with ⟨e, -⟩ | ⟨g', cap', e, -, -, h4, -⟩
          · simp at e
          · simp only [Value.slice.injEq] at e
            omega
        have hc0 : (0 : Int) ≤ (c : Int) := by omega
        have hc1 : (c : Int) ≤ (wbc : Int) := by omega
        have n2 := Near.cell (w := W.drew) (row := none) m2 (by simp)
        have n3 := Near.cell (w := W.drew) (row := none) x0 (by simp)
        have n4 := Near.cell (w := W.drew) (row := none) x1 (by simp)
        have n5 := Near.cell (w := W.drew) (row := none) hgc (by simp)
        have hb0 : (0 : Int) ≤ (z.1 : Int) := by omega
        have hb1 : (z.1 : Int) < (d.blocks : Int) := by omega
        refine wp_region_mix (fun w' => ∃ x : Near W.drew none, w' = x.world) [17] 18 (by kernel_rfl) rfl ?_
        refine mix_reads_lit [0, 1, 2, 3, 4, 5, 6, 7, 8, 9, 10, 11, 12, 13, 14, 15, 16] 1 (by kernel_rfl) (by kernel_rfl) (by kernel_rfl) (by kernel_rfl) rfl (NearC.of (World.grownBy.refl _ _)) ?_
        simp only [pick, List.filterMap_cons, List.filterMap_nil, List.getElem?_cons_succ, List.getElem?_cons_zero]
        repeat (first | go_big_quiet_step (fail) | quiet_step (fail))
        refine wpQuiet_nil ?_
        refine mix_deed_lit 17 0 (by kernel_rfl) (by kernel_rfl) rfl (fun K hK => ?_)
        simp only [comesUp, List.getElem?_cons_succ, List.getElem?_cons_zero]
        refine if_mk rfl ?_
        refine step_copy_bytes (.tmp 31) (.tmp 40) rfl 0 g.1 d.size g.2 LB rfl HL1.out HL2.out (z.2.take c) HT.out (by have := HL2.out; rw [List.length_take]; omega) ?_
        intro w2 ho2 hg2
        have hcl : (z.2.take c).length = c := by rw [List.length_take]; omega
        rw [hcl] at ho2
        have HN := Lib.hid (HIW.out.drew.next HKG.out HZ.out hgi hg2 ho2 (by unfold Bk.crash1; rw [if_pos rfl, show (Bk.crashK keep (k : Int) cut d.waiting d.lasting k).getD z.1 [] = LB from HLB.out, HCT.out]))
        refine hK _ _ (fun h _ => by simp [keeps] at h) ?_
        clear hK K ho2 hg2 hcl
        refine mix_done_lit (by kernel_rfl) ?_
        go_wp2_with fail
        go_roundw
        case rel => exact ⟨k + 1, by omega, by go_num, HN.out⟩
        case measure => simp [intOf]; omega
      · have e1 : ((k : Int) == which) = false := by simpa using hkw
        have HNE := Lib.hid hkw
        clear hkw
        by_cases hkl : k < keep.length
        · obtain ⟨b, hb⟩ := getElem?_some_of_lt hkl
          obtain ⟨ka, kc, kcell⟩ : ∃ ka o, keepA = some ⟨ka, o, none⟩ ∧ W.cell? ⟨ka, o + k, none⟩ = some (.bool b) := by
            obtain ⟨a, c, e, -, -, h6⟩ := HIW.out.2.2
            simp only [Value.slice.injEq, true_and] at e
            obtain ⟨rfl, -⟩ := e
            rcases h6 with h6 | ⟨kb, o, rfl, hc⟩
            · rw [h6] at hkl; simp at hkl
            · have := hc k b hb 0 (.bool b) rfl
              simp only [Nat.mul_one, Nat.add_zero] at this
              exact ⟨kb, o, rfl, this⟩
          obtain ⟨rfl, kcell⟩ := kcell
          have hkl1 : (k : Int) < (keep.length : Int) := by omega
          have HB := Lib.hid hb
          clear hb
          cases b with
          | false =>
            have HN := Lib.hid (HIW.out.skip HZ.out (by unfold Bk.crash1; rw [if_neg HNE.out, if_neg (by rw [List.getD_eq_getElem?_getD, HB.out]; simp)]))
            go_wp2_with fail
            go_roundw
            case rel => exact ⟨k + 1, by omega, by go_num, HN.out⟩
            case measure => simp [intOf]; omega
          | true =>
            obtain ⟨LB, hLB⟩ : ∃ LB, Bk.lastB { d with lasting := Bk.crashK keep which cut d.waiting d.lasting k } z.1 = LB := ⟨_, rfl⟩
            have hLBl : LB.length = d.size := by rw [← hLB]; exact ((crashK_ok HOK.out keep which cut k).lastB hzb.1).1
            have hz2 := hzb.2
            go_upto_region 6 with fail
            have n2 := Near.cell (w := W.drew) (row := none) m2 (by simp)
            have n3 := Near.cell (w := W.drew) (row := none) x0 (by simp)
            have n4 := Near.cell (w := W.drew) (row := none) x1 (by simp)
            have n5 := Near.cell (w := W.drew) (row := none) hgc (by simp)
            have hb0 : (0 : Int) ≤ (z.1 : Int) := by omega
            have hb1 : (z.1 : Int) < (d.blocks : Int) := by omega
            have HL1 := Lib.hid (show Own W.drew 0 (.slice (some ⟨g.1, 0, none⟩) d.size g.2) LB by rw [← hLB]; exact hown)
            have HL2 := Lib.hid (show d.size = LB.length from hLBl.symm)
            have HT := Lib.hid (show BytesAt W.drew (.slice (some ⟨wb, 0, none⟩) d.size wbc) z.2 from HO.out.bytes.below HBW.out.drew)
            clear hLB hown hLBl
            refine wp_region_mix (fun w' => ∃ x : Near W.drew none, w' = x.world) [10] 11 (by kernel_rfl) rfl ?_
            refine mix_reads_lit [0, 1, 2, 3, 4, 5, 6, 7, 8, 9] 1 (by kernel_rfl) (by kernel_rfl) (by kernel_rfl) (by kernel_rfl) rfl (NearC.of (World.grownBy.refl _ _)) ?_
            simp only [pick, List.filterMap_cons, List.filterMap_nil, List.getElem?_cons_succ, List.getElem?_cons_zero]
            repeat (first | go_big_quiet_step (fail) | quiet_step (fail))
            refine wpQuiet_nil ?_
            refine mix_deed_lit 10 0 (by kernel_rfl) (by kernel_rfl) rfl (fun K hK => ?_)
            simp only [comesUp, List.getElem?_cons_succ, List.getElem?_cons_zero]
            refine if_mk rfl ?_
            refine step_copy_bytes (.tmp 60) (.tmp 62) rfl 0 g.1 d.size g.2 LB rfl HL1.out HL2.out z.2 HT.out (by have := HL2.out; omega) ?_
            intro w2 ho2 hg2
            have hdr : z.2 ++ LB.drop z.2.length = z.2 := by rw [List.drop_of_length_le (by have := HL2.out; omega), List.append_nil]
            rw [hdr] at ho2
            have HN := Lib.hid (HIW.out.drew.next HKG.out HZ.out hgi hg2 ho2 (by unfold Bk.crash1; rw [if_neg HNE.out, if_pos (by rw [List.getD_eq_getElem?_getD, HB.out]; rfl)]))
            refine hK _ _ (fun h _ => by simp [keeps] at h) ?_
            clear hK K ho2 hg2 hdr
            refine mix_done_lit (by kernel_rfl) ?_
            go_wp2_with fail
            go_roundw
            case rel => exact ⟨k + 1, by omega, by go_num, HN.out⟩
            case measure => simp [intOf]; omega
        · have hkl1 : (keep.length : Int) ≤ (k : Int) := by omega
          have HKL := Lib.hid (show keep[k]? = none from List.getElem?_eq_none (by omega))
          clear hkl
          have HN := Lib.hid (HIW.out.skip HZ.out (by unfold Bk.crash1; rw [if_neg HNE.out, if_neg (by rw [List.getD_eq_getElem?_getD, HKL.out]; simp)]))
          go_wp2_with fail
          go_roundw
          case rel => exact ⟨k + 1, by omega, by go_num, HN.out⟩
          case measure => simp [intOf]; omega
    · obtain rfl : k = d.waiting.length := by omega
      have hpf : wr.frozen? ⟨p, 3, none⟩ = false := hi.1.box.free 3 _ rfl
      have HBX := Lib.hid hi.1.box
      clear hi hlt
      go_wp2_with fail
      go_returns
      refine ⟨⟨_, rfl⟩, ?_, ?_⟩
      · exact HI.out.1.noWait (grownBy_set (World.grownBy.refl _ _) _ _) (HBX.out.put 3 _) rfl rfl rfl rfl
      · exact HI.out.2.1.same (Beside.of_grown (grownBy_set (World.grownBy.refl _ _) _ _) (HI.out.1.inF _ mem_p))
end Go.Proofs.YtflbioiildndoaaDoor
