/- block: Crash, Flush -/
import Derived.Test.YtflbioiildndoaaDoorBlock5
namespace Go.Proofs.YtflbioiildndoaaDoor
open Go.RowKit
set_option linter.unusedVariables false
set_option linter.unusedSimpArgs false

/-- what a call of a disk does that hands back an error, or none -/
def Does (F : Nat → Prop) (w : World) (A : Nat → Addr) (p : Nat) (d : Bk.Disk) (k : Nat) (e : Ending) (w' : World) : Prop :=
  ∃ F' l v, e = .returned v ∧ ErrIs w' A w.heap.size l k v ∧ DiskAt F' w' p d ∧ Beside F w w' ∧ Grows F w F' w'
theorem crash_does {F : Nat → Prop} {w : World} {p n : Nat} {d : Bk.Disk} (hd : DiskAt F w p d) (ho : Bk.Ok n d) (hF : Held F w)
    (keepV : Value) (keep : List Bool) (hk : RowAt eBool w keepV keep) (hkF : keep = [] ∨ ∀ k, keepV.ownBlock = some k → ¬ F k) (which cut : Int) (A : Nat → Addr) :
    Calls Tryd.prog 26 #[.pointer (some ⟨p, 0, none⟩), keepV, .int .i64 which, .int .i64 cut] w (Does F w A p (Bk.crash d keep which cut) 0) := by
  obtain ⟨lv, wv, kv, gs, hs, hp⟩ := hd
  obtain ⟨ka, kc, rfl, -, -, -⟩ := id hk
  have HP := Lib.hid hp
  have HOK := Lib.hid ho
  have HK := Lib.hid hk
  have HKG := Lib.hid (show keep = [] ∨ ∀ k, (Value.slice ka keep.length kc).ownBlock = some k → k ≠ p ∧ ∀ g ∈ gs, g.1 ≠ k from hkF.imp id fun hkF k e => ⟨fun e2 => hkF k e (e2 ▸ hp.inF _ mem_p), fun g hg e2 => hkF k e (e2 ▸ hp.inF _ (by
    obtain ⟨i, hi, rfl⟩ := List.mem_iff_getElem.1 hg
    exact mem_gs (List.getElem?_eq_getElem hi)))⟩)
  have HF := Lib.hid hF
  clear hp ho hk hkF hF
  go_enter Tryd.func26, Tryd.ntmps26
  go_wp2_with (go_at_call 64; (refine (crash_any HP.out HOK.out ka kc keep HK.out HKG.out which cut).mono ?_); (rintro e w2 ⟨⟨v2, rfl⟩, hd2, hb2⟩))
  go_ret
  exact ⟨F, [], _, rfl, ErrIs.nil _ _ _, ⟨_, _, _, _, _, hd2⟩, hb2, Grows.refl HF.out hb2.size⟩
theorem crash_nil (keepV : Value) (which cut : Int) (w : World) (A : Nat → Addr) (hs : Sents w A) :
    Calls Tryd.prog 26 #[.pointer none, keepV, .int .i64 which, .int .i64 cut] w fun e w' => IsFault A w.heap.size [-1] 7 e w' ∧ Below w.heap.size w w' := by
  have g2 : w.cell? ⟨1, 0, none⟩ = some (.iface 171 (.pointer (some (A 7)))) := hs.cell 7 (by decide) (by decide)
  have HE := Lib.hid (sent_err (w := w) (A := A) (B := w.heap.size) 7 (by decide) (by decide))
  clear hs
  go_enter Tryd.func26, Tryd.ntmps26
  go_wp2_with (go_at_call 54; refine (faultNew_any _ 7 _ _ A w.heap.size HE.out (by decide) (Nat.le_refl _)).mono ?_; rintro e w' ⟨⟨v, rfl, hv⟩, hb⟩)
  go_ret
  exact ⟨⟨_, rfl, hv⟩, hb⟩
theorem flush_nil (w : World) (A : Nat → Addr) (hs : Sents w A) :
    Calls Tryd.prog 25 #[.pointer none] w fun e w' => IsFault A w.heap.size [-1] 7 e w' ∧ Below w.heap.size w w' := by
  have g2 : w.cell? ⟨1, 0, none⟩ = some (.iface 171 (.pointer (some (A 7)))) := hs.cell 7 (by decide) (by decide)
  have HE := Lib.hid (sent_err (w := w) (A := A) (B := w.heap.size) 7 (by decide) (by decide))
  clear hs
  go_enter Tryd.func25, Tryd.ntmps25
  go_wp2_with (go_at_call 54; refine (faultNew_any _ 7 _ _ A w.heap.size HE.out (by decide) (Nat.le_refl _)).mono ?_; rintro e w' ⟨⟨v, rfl, hv⟩, hb⟩)
  go_ret
  exact ⟨⟨_, rfl, hv⟩, hb⟩
/-! ### Flush -/
def FlushI (w : World) (s : Nat) (lv : Value) (gs : List (Nat × Nat)) (hs : List (Int × Nat × Nat)) (k : Nat) (wr : World) : Prop :=
  OwnR (eBk s) wr 0 lv (gsK hs gs k) ∧ w.grownBy wr lv.ownBlock
theorem FlushI.next {w wr : World} {s lg c n : Nat} {gs : List (Nat × Nat)} {hs : List (Int × Nat × Nat)} {k : Nat} (h : FlushI w s (.slice (some ⟨lg, 0, none⟩) n c) gs hs k wr) (hn : n = gs.length) {x : Int × Nat × Nat} (hx : hs[k]? = some x) (hi : x.1.toNat < gs.length) :
    FlushI w s (.slice (some ⟨lg, 0, none⟩) n c) gs hs (k + 1) (wr.setCell ⟨lg, x.1.toNat, none⟩ (.slice (some ⟨x.2.1, 0, none⟩) s x.2.2)) := by
  obtain ⟨h1, h2⟩ := h
  obtain ⟨y, hy⟩ := getElem?_some_of_lt (l := gsK hs gs k) (k := x.1.toNat) (by rw [gsK_length]; exact hi)
  have h3 := OwnR.set (eBk_ok s) h1 hy (j := 0) (y := x.2) (u := .slice (some ⟨x.2.1, 0, none⟩) s x.2.2) (show 0 < 1 by decide) rfl
  simp only [Nat.mul_one, Nat.add_zero] at h3
  refine ⟨?_, grownBy_set h2 _ _⟩
  rw [gsK_succ hx]
  exact h3
theorem FlushI.below {w wr wr' : World} {s : Nat} {lv : Value} {gs : List (Nat × Nat)} {hs : List (Int × Nat × Nat)} {k : Nat} (h : FlushI w s lv gs hs k wr) (hb : Below wr.heap.size wr wr') : FlushI w s lv gs hs k wr' :=
  ⟨h.1.below hb (Nat.le_refl _), grown_trans h.2 (grown_of_below hb (Nat.le_refl _) _)⟩
theorem Does.weak {F : Nat → Prop} {w w1 w' : World} {A : Nat → Addr} {p k : Nat} {d : Bk.Disk} {l : List Int} {v : Value} (hF : Held F w) (hd : DiskAt F w1 p d) (hb : Beside F w w1) (he : Below w1.heap.size w1 w') (hE : ErrIs w' A w1.heap.size l k v) : Does F w A p d k (.returned v) w' :=
  ⟨F, l, v, rfl, hE.mono hb.size, hd.below (fun i hi => Nat.lt_of_lt_of_le (hF i hi) hb.size) he, hb.same (Beside.of_below he), Grows.refl hF (Nat.le_trans hb.size he.size)⟩
set_option maxRecDepth 100000 in
theorem flush_off {F : Nat → Prop} {w : World} {p n : Nat} {d : Bk.Disk} (hd : DiskAt F w p d) (hF : Held F w) (hoff : d.off = true) (A : Nat → Addr) (hs : Sents w A) :
    Calls Tryd.prog 25 #[.pointer (some ⟨p, 0, none⟩)] w (Does F w A p d 7) := by
  have HD := Lib.hid hd
  obtain ⟨lv, wv, kv, gs, hs0, hp⟩ := hd
  have m9 := hp.box.at 9 (.bool d.off) rfl
  rw [hoff] at m9
  have g2 : w.cell? ⟨1, 0, none⟩ = some (.iface 171 (.pointer (some (A 7)))) := hs.cell 7 (by decide) (by decide)
  have HE := Lib.hid (sent_err (w := w) (A := A) (B := w.heap.size) 7 (by decide) (by decide))
  have HF := Lib.hid hF
  clear hs hp hoff hF
  go_enter Tryd.func25, Tryd.ntmps25
  go_wp2_with (go_at_call 54; refine (faultNew_any _ 7 _ _ A w.heap.size HE.out (by decide) (Nat.le_refl _)).mono ?_; rintro e w' ⟨⟨v, rfl, hv⟩, hb⟩)
  go_ret
  exact Does.weak HF.out HD.out (Beside.refl _ _) hb hv
set_option maxRecDepth 100000 in
theorem flush_blow {F : Nat → Prop} {w : World} {p n : Nat} {d : Bk.Disk} (hd : DiskAt F w p d) (ho : Bk.Ok n d) (hF : Held F w) (hoff : d.off = false) (hb : Bk.blows d) (A : Nat → Addr) (hs : Sents w A) (hsF : ∀ w1, Beside F w w1 → Sents w1 A) :
    Calls Tryd.prog 25 #[.pointer (some ⟨p, 0, none⟩)] w (Does F w A p (Bk.blown d) 7) := by
  have HD := Lib.hid hd
  obtain ⟨lv, wv, kv, gs, hs0, hp⟩ := hd
  have m9 := hp.box.at 9 (.bool d.off) rfl
  rw [hoff] at m9
  have HF := Lib.hid hF
  have HO := Lib.hid ho
  have HB := Lib.hid hb
  have HS := Lib.hid hsF
  clear hs hp hoff hF ho hb hsF
  go_enter Tryd.func25, Tryd.ntmps25
  go_upto_region 4 with (go_at_call 63; (refine (burns_blow HD.out HO.out HB.out).mono ?_); (rintro e w1 ⟨rfl, hd1, hb1⟩))
  have g2 : w1.cell? ⟨1, 0, none⟩ = some (.iface 171 (.pointer (some (A 7)))) := (HS.out w1 hb1).cell 7 (by decide) (by decide)
  have HE := Lib.hid (sent_err (w := w1) (A := A) (B := w1.heap.size) 7 (by decide) (by decide))
  have HD1 := Lib.hid hd1
  have HB1 := Lib.hid hb1
  clear hd1 hb1
  go_wp2_with (go_at_call 54; refine (faultNew_any _ 7 _ _ A w1.heap.size HE.out (by decide) (Nat.le_refl _)).mono ?_; rintro e w' ⟨⟨v, rfl, hv⟩, hb⟩)
  go_ret
  exact Does.weak HF.out HD1.out HB1.out hb hv
set_option maxRecDepth 100000 in
theorem flush_ok {F : Nat → Prop} {w : World} {p n : Nat} {d : Bk.Disk} (hd : DiskAt F w p d) (ho : Bk.Ok n d) (hF : Held F w) (hoff : d.off = false) (hb : ¬ Bk.blows d) (A : Nat → Addr) :
    Calls Tryd.prog 25 #[.pointer (some ⟨p, 0, none⟩)] w (Does F w A p (Bk.all (Bk.ticked d)) 0) := by
  have HD := Lib.hid hd
  obtain ⟨lv, wv, kv, gs, hs0, hp⟩ := hd
  have m9 := hp.box.at 9 (.bool d.off) rfl
  rw [hoff] at m9
  have HF := Lib.hid hF
  have HO := Lib.hid ho
  have HB := Lib.hid hb
  clear hp hoff hF ho hb lv wv kv gs hs0
  go_enter Tryd.func25, Tryd.ntmps25
  go_upto_region 5 with (go_at_call 63; (refine (burns_tick HD.out HO.out HB.out).mono ?_); (rintro e w1 ⟨rfl, hd1, hb1⟩))
  have ho1 := HO.out.ticked
  obtain ⟨d1, hd1e⟩ : ∃ d1, Bk.ticked d = d1 := ⟨_, rfl⟩
  rw [hd1e] at hd1 ho1
  have HDE := Lib.hid hd1e
  obtain ⟨lv, wv, kv, gs, hs, hp⟩ := hd1
  obtain ⟨lg, lc, elv, hlc, hcm⟩ := hp.lastRow ho1
  subst elv
  unfold maxLen at hcm
  obtain ⟨wa, wc, ewv, hwl, hwm⟩ := hp.wait.slice
  rw [hp.hlen] at ewv hwl
  unfold maxLen at hwm
  subst ewv
  have hgl : d1.blocks = gs.length := by rw [hp.glen, ho1.len]
  obtain ⟨m0, -, m2, m3, -, -, -, -, -, -, -⟩ := hp.box.eleven
  have HP := Lib.hid hp
  have HO1 := Lib.hid ho1
  have HB1 := Lib.hid hb1
  have HGL := Lib.hid hgl
  clear hp ho1 hb1 hd1e hgl m9
  go_wp2_with fail
  go_loopw [24] (fun i wr => ∃ k : Nat, k ≤ d1.waiting.length ∧ i = .int .i64 (k : Int) ∧ FlushI w1 d1.size (.slice (some ⟨lg, 0, none⟩) d1.blocks lc) gs hs k wr) (fun i _ => d1.waiting.length - (intOf i).toNat)
  case atStart => exact ⟨0, Nat.zero_le _, rfl, HP.out.last, World.grownBy.refl _ _⟩
  case round =>
    obtain ⟨k, hk, rfl, hi⟩ := hrel
    have HI := Lib.hid hi
    have n1 := List.nodup_cons.1 HP.out.nodup
    have nlp : lg ≠ p := fun e => n1.1 (by rw [← e]; exact List.mem_append_left _ (by simp [Value.ownBlock]))
    have hplt := HP.out.box.lt
    have hbx := HP.out.box.grownR hi.2 (by simpa [Value.ownBlock] using nlp)
    clear m0 m2 m3
    obtain ⟨m0, -, m2, m3, -, -, -, -, -, m9, -⟩ := hbx.eleven
    by_cases hlt : k < d1.waiting.length
    · obtain ⟨z, hz⟩ := getElem?_some_of_lt hlt
      obtain ⟨wg, wc2, wb, wbc, ewv, hhs, c0, c1, hown⟩ := HP.out.waitCell hz
      simp only [Value.slice.injEq, true_and] at ewv
      obtain ⟨rfl, rfl⟩ := ewv
      have nlw : some wg ≠ some lg := fun e => by
        have n2 := List.nodup_append.1 n1.2
        exact n2.2.2 lg (by simp [Value.ownBlock]) lg (List.mem_append_left _ (by rw [← Option.some.inj e]; simp [Value.ownBlock])) rfl
      have c0' := hi.2.cell c0 (by simpa [Value.ownBlock] using nlw)
      have c1' := hi.2.cell c1 (by simpa [Value.ownBlock] using nlw)
      have hzb := HO1.out.wait k z hz
      obtain ⟨y, hy⟩ := getElem?_some_of_lt (l := gsK hs gs k) (k := z.1) (by rw [gsK_length, ← HGL.out]; exact hzb.1)
      have HHS := Lib.hid (show hs[k]? = some ((z.1 : Int), wb, wbc) from hhs)
      have HY := Lib.hid hy
      have HZB := Lib.hid hzb
      have hb0 : (0 : Int) ≤ (z.1 : Int) := by omega
      have hb1 : (z.1 : Int) < (d1.blocks : Int) := by omega
      have hlt1 : (k : Int) < (d1.waiting.length : Int) := by omega
      have hk0 : (0 : Int) ≤ (k : Int) := by omega
      have hlglt : lg < wr.heap.size := (hi.1.lt lg rfl).2
      clear hi hz hhs hown c0 c1 hbx hy n1
      go_upto_region 8 with fail
      refine wp_name fun W hW => ?_
      have HX := Lib.hid (show BoxAt W wr.heap.size [.int .i64 (z.1 : Int), .slice (some ⟨wb, 0, none⟩) d1.size wbc] by rw [hW]; exact BoxAt.new wr [_, _] _)
      have HBW := Lib.hid (show Below wr.heap.size wr W by rw [hW]; exact (Below.refl _ _).alloc (Nat.le_refl _) _)
      clear hW
      have HIW := Lib.hid (HI.out.below HBW.out.drew)
      obtain ⟨x0, x1⟩ := HX.out.two
      have m2' : W.cell? ⟨p, 2, none⟩ = some (.slice (some ⟨lg, 0, none⟩) d1.blocks lc) := by rw [HBW.out.cell (World.block_lt_of_cell? wr _ m2)]; exact m2
      have hlcell := OwnR.cell (eBk_ok d1.size) HIW.out.1 HY.out (j := 0) (u := .slice (some ⟨y.1, 0, none⟩) d1.size y.2) rfl
      simp only [Nat.mul_one, Nat.add_zero] at hlcell
      have hlfree := HIW.out.1.free z.1
      have HNX := Lib.hid (HIW.out.next HGL.out HHS.out (by simp only [Int.toNat_natCast]; rw [← HGL.out]; exact HZB.out.1))
      simp only [Int.toNat_natCast] at HNX
      have n2 := Near.cell (w := W.drew) (row := none) m2' (by simp)
      have n3 := Near.cell (w := W.drew) (row := none) x0 (by simp)
      have n4 := Near.cell (w := W.drew) (row := none) x1 (by simp)
      have n5 := Near.cell (w := W.drew) (row := none) hlcell (by simp)
      refine wp_region_mix (fun w' => ∃ x : Near W.drew none, w' = x.world) [9] 10 (by kernel_rfl) rfl ?_
      refine mix_reads_lit [0, 1, 2, 3, 4, 5, 6, 7, 8] 1 (by kernel_rfl) (by kernel_rfl) (by kernel_rfl) (by kernel_rfl) rfl (NearC.of (World.grownBy.refl _ _)) ?_
      simp only [pick, List.filterMap_cons, List.filterMap_nil, List.getElem?_cons_succ, List.getElem?_cons_zero]
      repeat (first | go_big_quiet_step (fail) | quiet_step (fail))
      refine wpQuiet_nil ?_
      refine mix_deed_lit 9 0 (by kernel_rfl) (by kernel_rfl) rfl (fun K hK => ?_)
      simp only [comesUp, List.getElem?_cons_succ, List.getElem?_cons_zero]
      refine if_mk rfl ?_
      go_simp
      refine hK _ _ (fun h => by simp [keeps] at h) ?_
      clear hK K
      refine mix_done_lit (by kernel_rfl) ?_
      go_wp2_with fail
      go_roundw
      case rel => exact ⟨k + 1, by omega, by go_num, HNX.out⟩
      case measure => simp [intOf]; omega
    · obtain rfl : k = d1.waiting.length := by omega
      have hpf : wr.frozen? ⟨p, 3, none⟩ = false := hbx.free 3 _ rfl
      have HBX := Lib.hid hbx
      clear hi hlt hbx n1
      go_wp2_with fail
      go_ret
      have hset : ∀ k, k ≠ p → (wr.setCell ⟨p, 3, none⟩ (.slice none 0 0)).heap[k]? = wr.heap[k]? := fun k hk => Below.heap_setCell _ _ _ _ (fun e => hk e)
      rw [HDE.out]
      refine ⟨F, [], _, rfl, ErrIs.nil _ _ _, ⟨_, _, _, _, _, HP.out.flushed (d' := Bk.all d1) (fun k hk h1 h2 => ?_) (HBX.out.put 3 _) ?_ rfl rfl rfl rfl⟩, ?_, Grows.refl HF.out ?_⟩
      · rw [hset k h1]; exact HI.out.2.block k hk (fun e => h2 e.symm)
      · have := HI.out.1
        rw [← HP.out.hlen] at this
        exact this.on fun k hk => hset k (fun e => nlp (by rw [← e]; exact (Option.some.inj hk)))
      · refine HB1.out.same ⟨HI.out.2.os, HI.out.2.tape, HI.out.2.output, by simpa using HI.out.2.size, fun k hk hn => ?_⟩
        rw [hset k (fun e => hn (e ▸ HP.out.inF _ mem_p))]
        exact HI.out.2.block k hk (fun e => hn (HP.out.inF _ (mem_lv e.symm)))
      · have := HI.out.2.size; have := HB1.out.size; simp; omega
end Go.Proofs.YtflbioiildndoaaDoor
