/- the statements of disks: played (printed by wip/tools/gen_play04.py) -/
import Derived.Test.YtflbioiildndoaaDoorBlkStep3
namespace Go.Proofs.YtflbioiildndoaaDoor
open Go.RowKit
set_option linter.unusedVariables false
set_option linter.unusedSimpArgs false

/-- a row of calls -/
abbrev eBA : Elem BAct := ⟨37, 63, 8, 80, .agg #[.int .i64 0, .int .i64 0, .int .u8 0, .bool false, .slice none 0 0, .int .i64 0, .int .i64 0, .int .u32 0], BAct.cells⟩
/-- calls that came in: what each keeps lies below B -/
structure Acts (B : Nat) (w : World) (lv : Value) (acts : List BAct) : Prop where
  row : RowAt eBA w lv acts
  keep : ∀ (i : Nat) (a : BAct), acts[i]? = some a → RowAt eBool w (.slice a.ka a.keep.length a.kc) a.keep ∧ (a.keep = [] ∨ ∀ k, (Value.slice a.ka a.keep.length a.kc).ownBlock = some k → k < B) ∧ a.keep.length ≤ 140737488355328
theorem Acts.below {B : Nat} {w w' : World} {lv : Value} {acts : List BAct} (h : Acts B w lv acts) (hb : Below w.heap.size w w') : Acts B w' lv acts :=
  ⟨h.row.below hb, fun i a ha => ⟨(h.keep i a ha).1.below hb, (h.keep i a ha).2⟩⟩
/-- a disk behind the first k calls -/
def playK (acts : List BAct) : Nat → Bk.Disk
  | 0 => Bk.new 8 256
  | k + 1 => match acts[k]? with | some a => (stepT (playK acts k) a).1 | none => playK acts k
theorem playK_ok (acts : List BAct) : ∀ k, Bk.Ok k (playK acts k)
  | 0 => Bk.Ok.new (by omega) (by omega)
  | k + 1 => by
    rw [playK]
    split
    · exact stepT_ok (playK_ok acts k) _
    · exact (playK_ok acts k).mono (Nat.le_succ k)
/-- the cells of a call, in memory -/
def BoxAtR (w : World) (b o : Nat) (a : BAct) : Prop := ∀ (j : Nat) (u : Value), a.cells[j]? = some u → w.cell? ⟨b, o + j, none⟩ = some u
theorem BoxAtR.eight {w : World} {b o : Nat} {a : BAct} (h : BoxAtR w b o a) : w.cell? ⟨b, o, none⟩ = some (.int .i64 a.kind) ∧ w.cell? ⟨b, o + 1, none⟩ = some (.int .i64 a.i) ∧ w.cell? ⟨b, o + 2, none⟩ = some (.int .u8 (a.fill.toNat : Int)) ∧ w.cell? ⟨b, o + 3, none⟩ = some (.bool a.short) ∧
    w.cell? ⟨b, o + 4, none⟩ = some (.slice a.ka a.keep.length a.kc) ∧ w.cell? ⟨b, o + 5, none⟩ = some (.int .i64 a.torn) ∧ w.cell? ⟨b, o + 6, none⟩ = some (.int .i64 a.cut) ∧ w.cell? ⟨b, o + 7, none⟩ = some (.int .u32 (a.mask.toNat : Int)) :=
  ⟨h 0 _ rfl, h 1 _ rfl, h 2 _ rfl, h 3 _ rfl, h 4 _ rfl, h 5 _ rfl, h 6 _ rfl, h 7 _ rfl⟩
theorem refNew4_to (b s : Nat) (hb : 8 ≤ b ∧ b ≤ 256) (hs : 256 ≤ s ∧ s ≤ 1024) (E : Bk.Disk) (hE : Bk.new b s = E) (w : World) :
    Calls Tryd.prog 59 #[.agg #[.int .i64 (b : Int), .int .i64 (s : Int)]] w fun e w' => GivesR (fun _ => False) w E e w' ∧ Below w.heap.size w w' := by subst hE; exact refNew4 b s hb hs w
def PlayI (B : Nat) (w wr : World) (p nb rb : Nat) (D : Bk.Disk) : Prop :=
  ∃ F G lv wv kv xs ys, DiskAt F wr p D ∧ DiskR G wr D lv wv kv xs ys ∧ BoxAt wr nb (cellsD D lv wv kv) ∧ BoxAt wr rb zeroD ∧ Held F wr ∧ Held G wr ∧ (∀ k, G k → ¬ F k) ∧ (¬ F nb ∧ ¬ G nb ∧ ¬ F rb ∧ ¬ G rb) ∧ (∀ k, k < B → G k) ∧ (∀ k, F k → w.heap.size ≤ k) ∧ Below w.heap.size w wr
/-- two disks in memory apart from each other, from B on the program's -/
def Two (B : Nat) (F G : Nat → Prop) (w : World) (p : Nat) (v : Value) (d : Bk.Disk) : Prop :=
  DiskAt F w p d ∧ RefAt G w v d ∧ Held F w ∧ Held G w ∧ (∀ k, G k → ¬ F k) ∧ ∀ k, F k → B ≤ k
def Played (w : World) (d : Bk.Disk) (e : Ending) (w' : World) : Prop :=
  ∃ p v F G, e = .returned (.tuple #[.pointer (some ⟨p, 0, none⟩), v]) ∧ Two w.heap.size F G w' p v d

set_option maxRecDepth 100000 in
set_option maxHeartbeats 1000000 in
theorem played04_any (B : Nat) (lv : Value) (acts : List BAct) (w : World) (hB : B ≤ w.heap.size) (ha : Acts B w lv acts) (A : Nat → Addr) (hs : Sents w A) :
    Calls Tryd.prog 21 #[lv] w fun e w' => Played w (playK acts (min acts.length 40)) e w' ∧ Below w.heap.size w w' := by
  obtain ⟨aa, ac, rfl, hac, hacm, -⟩ := id ha.row
  unfold maxLen at hacm
  have HA := Lib.hid ha
  have HS := Lib.hid hs
  have HBW0 := Lib.hid hB
  clear ha hs hB
  go_enter Tryd.func21, Tryd.ntmps21
  go_upto_region 1 with fail
  refine wp_name fun W0 hW0 => ?_
  have HR0 := Lib.hid (show BoxAt W0 w.heap.size zeroD by rw [hW0]; exact BoxAt.new w [_, _, _, _, _, _, _, _, _, _, _] _)
  have HB0 := Lib.hid (show Below w.heap.size w W0 by rw [hW0]; go_grown)
  clear hW0
  go_upto_region 2 with (first
    | (go_at_call 13; (refine (new_ok4 8 256 (by omega) (by omega) _).mono ?_); (rintro e w2 ⟨⟨p, rfl, hd⟩, hb⟩); (have HD := Lib.hid hd); (have HB12 := Lib.hid hb.size); (have HB2 := Lib.hid (below_step HB1.out hb)); (have HR2 := Lib.hid (HR1.out.below hb)); (clear hd hb))
    | (go_at_call 34; (refine (small04_is _).mono ?_); (rintro e w1 ⟨rfl, hb⟩); (have HB1 := Lib.hid (below_step HB0.out hb)); (have HR1 := Lib.hid (HR0.out.below hb)); (clear hb)))
  obtain ⟨D0, hD0⟩ : ∃ D, Bk.new 8 256 = D := ⟨_, rfl⟩
  have hdd := HD.out
  rw [hD0] at hdd
  have HDD := Lib.hid hdd
  have HD0 := Lib.hid hD0
  clear hdd hD0 HD
  go_upto_region 3 with (first
    | (go_at_call 59; (refine (refNew4_to 8 256 (by omega) (by omega) D0 HD0.out _).mono ?_); (rintro e w4 ⟨⟨v4, rfl, hr4⟩, hb⟩); (obtain ⟨lv2, wv2, kv2, xs2, ys2, rfl, h2⟩ := hr4); (obtain ⟨la2, lc2, wa2, wc2, ka2, kc2, rfl, rfl, rfl⟩ := h2.shape); (have H2 := Lib.hid h2); (have HB4 := Lib.hid hb); (clear h2 hb); (unfold refD))
    | (go_at_call 34; (refine (small04_is _).mono ?_); (rintro e w3 ⟨rfl, hb⟩); (have HB3 := Lib.hid hb); (clear hb)))
  refine wp_name fun V hV => ?_
  obtain ⟨nb, hnb⟩ : ∃ nb, w4.heap.size = nb := ⟨_, rfl⟩
  have hvb : BoxAt V nb [.int .i64 (D0.blocks : Int), .int .i64 (D0.size : Int), .slice la2 xs2.length lc2, .slice wa2 ys2.length wc2, .bool D0.lit, .int .i64 D0.after, .int .i64 D0.torn, .int .i64 D0.cut, .slice ka2 D0.keep.length kc2, .bool D0.off, .int .i64 D0.count] ∧ Below w4.heap.size w4 V := by
    rw [hV]
    exact ⟨BoxAt.newAt _ _ hnb [_, _, _, _, _, _, _, _, _, _, _] _, (Below.refl _ _).alloc (Nat.le_refl _) _⟩
  have h23 : Below w2.heap.size w2 V := below_step (below_step HB3.out HB4.out) hvb.2
  have hw0 : w.heap.size < W0.heap.size := HR0.out.lt
  have hw1 : w.heap.size < w1.heap.size := HR1.out.lt
  have hw2 : w1.heap.size ≤ w2.heap.size := HB12.out
  have hw3 : w2.heap.size ≤ w3.heap.size := HB3.out.size
  have hw4 : w3.heap.size ≤ w4.heap.size := HB4.out.size
  have hnbV : nb < V.heap.size := hvb.1.lt
  have hB0 := HBW0.out
  have hF0 : Held (fun k => w1.heap.size ≤ k ∧ k < w2.heap.size) w2 := fun k hk => hk.2
  have hbV : Below w.heap.size w V := below_step HB2.out h23
  have hI : PlayI B w V p nb w.heap.size D0 := by
    refine ⟨fun k => w1.heap.size ≤ k ∧ k < w2.heap.size, fun k => k < B ∨ (w3.heap.size ≤ k ∧ k < w4.heap.size), _, _, _, _, _, HDD.out.below hF0 h23, ((H2.out.on fun k hk => hvb.2.block k ?_).mono fun k hk => ?_), hvb.1, HR2.out.below h23, hF0.more h23.size, fun k hk => ?_, fun k hk h => ?_, ⟨?_, ?_, ?_, ?_⟩, fun k hk => .inl hk, fun k hk => by omega, hbV⟩
    · rcases hk with h | h
      · cases h
      · omega
    · rcases hk with h | h
      · cases h
      · exact .inr h
    · have := hvb.2.size
      rcases hk with h | h <;> omega
    · rcases hk with h1 | h1 <;> omega
    · omega
    · omega
    · omega
    · omega
  have HI := Lib.hid hI
  have HNBW := Lib.hid (show w.heap.size < nb by omega)
  rw [hnb]
  clear hV hvb h23 hw1 hw2 hw3 hw4 hnbV hF0 hbV hI hB0 hnb
  go_wp2_with fail
  go_loopw [7] (fun i wr => ∃ k : Nat, k ≤ acts.length ∧ k ≤ 40 ∧ i = .int .i64 (k : Int) ∧ PlayI B w wr p nb w.heap.size (playK acts k)) (fun i _ => acts.length - (intOf i).toNat)
  case atStart => exact ⟨0, Nat.zero_le _, Nat.zero_le _, rfl, by show PlayI B w _ p nb w.heap.size (Bk.new 8 256); rw [HD0.out]; exact HI.out⟩
  case round =>
    obtain ⟨k, hk, hk40, rfl, hi⟩ := hrel
    obtain ⟨D, hD⟩ : ∃ D, playK acts k = D := ⟨_, rfl⟩
    have hok := playK_ok acts k
    rw [hD] at hi hok
    obtain ⟨F, G, lv, wv, kv, xs, ys, hd, hr, hx, hz, hF, hG, hGF, hout, hBG, hFw, hb⟩ := hi
    obtain ⟨la, lc, wa, wc, ka, kc, rfl, rfl, rfl⟩ := hr.shape
    have HD := Lib.hid hD
    have HOK := Lib.hid hok
    have HDD := Lib.hid hd
    have HR := Lib.hid hr
    have HX := Lib.hid hx
    have HZ := Lib.hid hz
    have HF := Lib.hid hF
    have HG := Lib.hid hG
    have HGF := Lib.hid hGF
    have HOUT := Lib.hid hout
    have HBG := Lib.hid hBG
    have HFW := Lib.hid hFw
    have HB := Lib.hid hb
    clear hD hok hd hr hx hz hF hG hGF hout hBG hFw hb
    obtain ⟨x0, x1, x2, x3, x4, x5, x6, x7, x8, x9, x10⟩ := HX.out.eleven
    by_cases hlt : k < acts.length
    · by_cases h40 : k < 40
      · obtain ⟨a, hak⟩ := getElem?_some_of_lt hlt
        have hlt1 : (k : Int) < (acts.length : Int) := by omega
        have h401 : (k : Int) < 40 := by omega
        have hk0 : (0 : Int) ≤ (k : Int) := by omega
        obtain ⟨ab, ao, rfl, hcells⟩ : ∃ ab ao, aa = some ⟨ab, ao, none⟩ ∧ BoxAtR wr ab (ao + k * 8) a := by
          obtain ⟨a', c', e, -, -, h3⟩ := (HA.out.below HB.out).row
          simp only [Value.slice.injEq, true_and] at e
          obtain ⟨rfl, rfl⟩ := e
          rcases h3 with h3 | ⟨b, o, rfl, hc⟩
          · rw [h3] at hlt; simp at hlt
          · exact ⟨b, o, rfl, fun j u hu => by have := hc k a hak j u hu; rwa [Nat.add_assoc]⟩
        obtain ⟨c0, c1, c2, c3, c4, c5, c6, c7⟩ := hcells.eight
        have hkeep := (HA.out.below HB.out).keep k a hak
        obtain ⟨E, kk, hE⟩ : ∃ E kk, stepT D a = (E, kk) := ⟨_, _, rfl⟩
        have HKE := Lib.hid hkeep
        have HE := Lib.hid hE
        have HNX := Lib.hid (show playK acts (k + 1) = E by rw [playK, hak]; show (stepT (playK acts k) a).1 = E; rw [HD.out, hE])
        clear hak hcells hkeep hE
        go_upto_region 6 with fail
        have hstep := step04_any HDD.out.drew (HR.out.at.drew) (fun q hq => HF.out q hq) (fun q hq => HG.out q hq) HGF.out HOK.out (by omega) A (fun wx hx => HS.out.below (HB.out.trans (Beside.below ⟨hx.os, hx.tape, hx.output, hx.size, hx.block⟩ HFW.out HB.out.size))) a (HKE.out.1.below (Below.refl _ _).drew) (HKE.out.2.1.imp id fun h q hq => HBG.out q (h q hq)) HKE.out.2.2 HE.out
        unfold refD BAct.cells at hstep
        have HSTEP := Lib.hid hstep
        clear hstep
        have q0 := Near.cell (w := wr.drew) (row := none) x0 (by simp)
        have q1 := Near.cell (w := wr.drew) (row := none) x1 (by simp)
        have q2 := Near.cell (w := wr.drew) (row := none) x2 (by simp)
        have q3 := Near.cell (w := wr.drew) (row := none) x3 (by simp)
        have q4 := Near.cell (w := wr.drew) (row := none) x4 (by simp)
        have q5 := Near.cell (w := wr.drew) (row := none) x5 (by simp)
        have q6 := Near.cell (w := wr.drew) (row := none) x6 (by simp)
        have q7 := Near.cell (w := wr.drew) (row := none) x7 (by simp)
        have q8 := Near.cell (w := wr.drew) (row := none) x8 (by simp)
        have q9 := Near.cell (w := wr.drew) (row := none) x9 (by simp)
        have q10 := Near.cell (w := wr.drew) (row := none) x10 (by simp)
        have r0 := Near.cell (w := wr.drew) (row := none) c0 (by simp)
        have r1 := Near.cell (w := wr.drew) (row := none) c1 (by simp)
        have r2 := Near.cell (w := wr.drew) (row := none) c2 (by simp)
        have r3 := Near.cell (w := wr.drew) (row := none) c3 (by simp)
        have r4 := Near.cell (w := wr.drew) (row := none) c4 (by simp)
        have r5 := Near.cell (w := wr.drew) (row := none) c5 (by simp)
        have r6 := Near.cell (w := wr.drew) (row := none) c6 (by simp)
        have r7 := Near.cell (w := wr.drew) (row := none) c7 (by simp)
        refine wp_region_mix (fun w' => ∃ x : Near wr.drew none, w' = x.world) [6, 10] 11 (by kernel_rfl) rfl ?_
        refine mix_reads_lit [0, 1, 2, 3, 4, 5] 5 (by kernel_rfl) (by kernel_rfl) (by kernel_rfl) (by kernel_rfl) rfl (NearC.of (World.grownBy.refl _ _)) ?_
        simp only [pick, List.filterMap_cons, List.filterMap_nil, List.getElem?_cons_succ, List.getElem?_cons_zero]
        repeat (first | go_big_quiet_step (fail) | quiet_step (fail))
        refine wpQuiet_nil ?_
        refine mix_deed_lit 6 4 (by kernel_rfl) (by kernel_rfl) rfl (fun K hK => ?_)
        simp only [comesUp, List.getElem?_cons_succ, List.getElem?_cons_zero]
        refine if_mk rfl ?_
        go_simp
        refine (HSTEP.out).mono ?_
        rintro e w5 ⟨F5, G5, v5, rfl, hd5, hr5, hb5, hg5, hgg5, hgf5⟩
        obtain ⟨lv6, wv6, kv6, xs6, ys6, rfl, h6⟩ := hr5
        obtain ⟨la6, lc6, wa6, wc6, ka6, kc6, rfl, rfl, rfl⟩ := h6.shape
        have hbs : Beside F wr w5 := ⟨hb5.os, hb5.tape, hb5.output, hb5.size, hb5.block⟩
        have HX5 := Lib.hid (HX.out.beside hbs HOUT.out.1)
        have HZ5 := Lib.hid (HZ.out.beside hbs HOUT.out.2.2.1)
        have HBS := Lib.hid hbs
        have HD5 := Lib.hid hd5
        have H6 := Lib.hid h6
        have HG5 := Lib.hid (show ∀ q, F5 q → (F q ∨ wr.heap.size ≤ q) ∧ q < w5.heap.size from fun q hq => hg5 q hq)
        have HGG5 := Lib.hid (show ∀ q, G5 q → (G q ∨ wr.heap.size ≤ q) ∧ q < w5.heap.size from fun q hq => hgg5 q hq)
        have HGF5 := Lib.hid hgf5
        refine hK _ _ (fun h => by simp [keeps] at h) ?_
        clear hK K hd5 h6 hb5 hg5 hgg5 hgf5 hbs HSTEP
        unfold refD
        refine mix_flat_lit [7, 8, 9] 1 (by kernel_rfl) (by kernel_rfl) (by kernel_rfl) (by kernel_rfl) rfl ?_
        simp only [pick, List.filterMap_cons, List.filterMap_nil, List.getElem?_cons_succ, List.getElem?_cons_zero]
        repeat (first | go_big_quiet_step (fail) | quiet_step (fail))
        refine wpQuiet_nil ?_
        obtain ⟨fz0, fz1, fz2, fz3, fz4, fz5, fz6, fz7, fz8, fz9, fz10⟩ := HX5.out.elevenF
        obtain ⟨z0, z1, z2, z3, z4, z5, z6, z7, z8, z9, z10⟩ := HX5.out.eleven
        refine mix_deed_lit 10 0 (by kernel_rfl) (by kernel_rfl) rfl (fun K hK => ?_)
        simp only [comesUp, List.getElem?_cons_succ, List.getElem?_cons_zero]
        refine if_mk rfl ?_
        go_simp
        refine hK _ _ (fun h => by simp [keeps] at h) ?_
        clear hK K
        refine mix_done_lit (by kernel_rfl) ?_
        refine q_name fun U hU => ?_
        have hfu := fill11 HX5.out (.int .i64 (E.blocks : Int)) (.int .i64 (E.size : Int)) (.slice la6 xs6.length lc6) (.slice wa6 ys6.length wc6) (.bool E.lit) (.int .i64 E.after) (.int .i64 E.torn) (.int .i64 E.cut) (.slice ka6 E.keep.length kc6) (.bool E.off) (.int .i64 E.count)
        rw [← hU] at hfu
        clear hU
        have hnbw := HX.out.lt
        have hrbw := HZ.out.lt
        have hs5 := HBS.out.size
        have hsU := hfu.2.size
        have hF5 : ∀ q, F5 q → q ≠ nb ∧ q ≠ w.heap.size := fun q hq => by
          rcases (HG5.out q hq).1 with h | h
          · exact ⟨fun e => HOUT.out.1 (e ▸ h), fun e => HOUT.out.2.2.1 (e ▸ h)⟩
          · exact ⟨by omega, by omega⟩
        have hG5 : ∀ q, G5 q → q ≠ nb ∧ q ≠ w.heap.size := fun q hq => by
          rcases (HGG5.out q hq).1 with h | h
          · exact ⟨fun e => HOUT.out.2.1 (e ▸ h), fun e => HOUT.out.2.2.2 (e ▸ h)⟩
          · exact ⟨by omega, by omega⟩
        have hnx : PlayI B w U p nb w.heap.size (playK acts (k + 1)) := by
          rw [HNX.out]
          refine ⟨F5, fun q => q < B ∨ G5 q, _, _, _, xs6, ys6, HD5.out.on fun q hq => hfu.2.block q (HG5.out q hq).2 (by simpa using (hF5 q hq).1), (H6.out.on fun q hq => hfu.2.block q (HGG5.out q hq).2 (by simpa using (hG5 q hq).1)).mono fun q hq => .inr hq, hfu.1, HZ5.out.grownR hfu.2 (by have := HNBW.out; simp; omega), fun q hq => Nat.lt_of_lt_of_le (HG5.out q hq).2 hsU, fun q hq => ?_, fun q hq hf => ?_, ⟨fun h => (hF5 _ h).1 rfl, fun h => ?_, fun h => (hF5 _ h).2 rfl, fun h => ?_⟩, fun q hq => .inl hq, fun q hq => ?_, ?_⟩
          · rcases hq with h | h
            · have := HBW0.out; omega
            · exact Nat.lt_of_lt_of_le (HGG5.out q h).2 hsU
          · rcases hq with h | h
            · have h1 := HBW0.out
              rcases (HG5.out q hf).1 with h2 | h2
              · have := HFW.out q h2; omega
              · omega
            · exact HGF5.out q h hf
          · have h1 := HBW0.out
            have h2 := HNBW.out
            rcases h with h | h
            · omega
            · exact (hG5 _ h).1 rfl
          · have h1 := HBW0.out
            rcases h with h | h
            · omega
            · exact (hG5 _ h).2 rfl
          · rcases (HG5.out q hq).1 with h2 | h2
            · exact HFW.out q h2
            · omega
          · exact (HB.out.trans (HBS.out.below HFW.out HB.out.size)).grown hfu.2 (by have := HB.out.size; omega) (by intro q hq; cases hq; exact Nat.le_of_lt HNBW.out)
        have HNXT := Lib.hid hnx
        clear hnx hfu hnbw hrbw hs5 hsU hF5 hG5 x0 x1 x2 x3 x4 x5 x6 x7 x8 x9 x10 q0 q1 q2 q3 q4 q5 q6 q7 q8 q9 q10 fz0 fz1 fz2 fz3 fz4 fz5 fz6 fz7 fz8 fz9 fz10 z0 z1 z2 z3 z4 z5 z6 z7 z8 z9 z10 r0 r1 r2 r3 r4 r5 r6 r7 c0 c1 c2 c3 c4 c5 c6 c7
        go_wp2_with fail
        go_roundw
        case rel => exact ⟨k + 1, by omega, by omega, by go_num, HNXT.out⟩
        case measure => simp [intOf]; omega
      · obtain rfl : k = 40 := by omega
        have hge : (40 : Int) ≤ (40 : Int) := by omega
        have hlt1 : ((40 : Nat) : Int) < (acts.length : Int) := by omega
        have HMIN := Lib.hid (show playK acts (min acts.length 40) = D by rw [show min acts.length 40 = 40 by omega]; exact HD.out)
        go_upto_region 7 with fail
        have q0 := Near.cell (w := wr.drew) (row := none) x0 (by simp)
        have q1 := Near.cell (w := wr.drew) (row := none) x1 (by simp)
        have q2 := Near.cell (w := wr.drew) (row := none) x2 (by simp)
        have q3 := Near.cell (w := wr.drew) (row := none) x3 (by simp)
        have q4 := Near.cell (w := wr.drew) (row := none) x4 (by simp)
        have q5 := Near.cell (w := wr.drew) (row := none) x5 (by simp)
        have q6 := Near.cell (w := wr.drew) (row := none) x6 (by simp)
        have q7 := Near.cell (w := wr.drew) (row := none) x7 (by simp)
        have q8 := Near.cell (w := wr.drew) (row := none) x8 (by simp)
        have q9 := Near.cell (w := wr.drew) (row := none) x9 (by simp)
        have q10 := Near.cell (w := wr.drew) (row := none) x10 (by simp)
        refine wp_region_mix (fun w' => ∃ x : Near wr.drew none, w' = x.world) [3] 4 (by kernel_rfl) rfl ?_
        refine mix_reads_lit [0, 1] 2 (by kernel_rfl) (by kernel_rfl) (by kernel_rfl) (by kernel_rfl) rfl (NearC.of (World.grownBy.refl _ _)) ?_
        simp only [pick, List.filterMap_cons, List.filterMap_nil, List.getElem?_cons_succ, List.getElem?_cons_zero]
        repeat (first | go_big_quiet_step (fail) | quiet_step (fail))
        refine wpQuiet_nil ?_
        refine mix_flat_lit [2] 1 (by kernel_rfl) (by kernel_rfl) (by kernel_rfl) (by kernel_rfl) rfl ?_
        simp only [pick, List.filterMap_cons, List.filterMap_nil, List.getElem?_cons_succ, List.getElem?_cons_zero]
        repeat (first | go_big_quiet_step (fail) | quiet_step (fail))
        refine wpQuiet_nil ?_
        obtain ⟨fz0, fz1, fz2, fz3, fz4, fz5, fz6, fz7, fz8, fz9, fz10⟩ := HZ.out.elevenF
        obtain ⟨z0, z1, z2, z3, z4, z5, z6, z7, z8, z9, z10⟩ := HZ.out.eleven
        refine mix_deed_lit 3 0 (by kernel_rfl) (by kernel_rfl) rfl (fun K hK => ?_)
        simp only [comesUp, List.getElem?_cons_succ, List.getElem?_cons_zero]
        refine if_mk rfl ?_
        go_simp
        refine hK _ _ (fun h => by simp [keeps] at h) ?_
        clear hK K
        refine mix_done_lit (by kernel_rfl) ?_
        refine q_name fun U hU => ?_
        have hfu := fill11 HZ.out (.int .i64 (D.blocks : Int)) (.int .i64 (D.size : Int)) (.slice la xs.length lc) (.slice wa ys.length wc) (.bool D.lit) (.int .i64 D.after) (.int .i64 D.torn) (.int .i64 D.cut) (.slice ka D.keep.length kc) (.bool D.off) (.int .i64 D.count)
        have hfv : BoxAt U w.heap.size [.int .i64 (D.blocks : Int), .int .i64 (D.size : Int), .slice la xs.length lc, .slice wa ys.length wc, .bool D.lit, .int .i64 D.after, .int .i64 D.torn, .int .i64 D.cut, .slice ka D.keep.length kc, .bool D.off, .int .i64 D.count] ∧ wr.grownBy U (some w.heap.size) := by
          rw [hU]
          exact drew11 hfu
        have HZU := Lib.hid hfv.1
        have HGU := Lib.hid hfv.2
        clear hU hfu hfv x0 x1 x2 x3 x4 x5 x6 x7 x8 x9 x10 q0 q1 q2 q3 q4 q5 q6 q7 q8 q9 q10 fz0 fz1 fz2 fz3 fz4 fz5 fz6 fz7 fz8 fz9 fz10 z0 z1 z2 z3 z4 z5 z6 z7 z8 z9 z10
        obtain ⟨z0, z1, z2, z3, z4, z5, z6, z7, z8, z9, z10⟩ := HZU.out.eleven
        go_wp2_with fail
        refine bodyPost_ret (v := .tuple #[.pointer (some ⟨p, 0, none⟩), refD D (.slice la xs.length lc) (.slice wa ys.length wc) (.slice ka D.keep.length kc)]) (by simp [results, Tryd.results21, go_sem, refD, z0, z1, z2, z3, z4, z5, z6, z7, z8, z9, z10]) rfl ?_
        have hsU := HGU.out.size
        rw [HMIN.out]
        refine ⟨⟨p, _, F, G, rfl, HDD.out.on fun q hq => HGU.out.block q (HF.out q hq) (by have := HOUT.out.2.2.1; intro e; cases e; exact this hq), ⟨_, _, _, _, _, rfl, HR.out.on fun q hq => HGU.out.block q (HG.out q hq) (by have := HOUT.out.2.2.2; intro e; cases e; exact this hq)⟩, fun q hq => Nat.lt_of_lt_of_le (HF.out q hq) hsU, fun q hq => Nat.lt_of_lt_of_le (HG.out q hq) hsU, HGF.out, HFW.out⟩, HB.out.grown HGU.out HB.out.size (by intro q hq; cases hq; exact Nat.le_refl _)⟩
    · have hge : (acts.length : Int) ≤ (k : Int) := by omega
      have HMIN := Lib.hid (show playK acts (min acts.length 40) = D by rw [show min acts.length 40 = k by omega]; exact HD.out)
      go_upto_region 7 with fail
      have q0 := Near.cell (w := wr.drew) (row := none) x0 (by simp)
      have q1 := Near.cell (w := wr.drew) (row := none) x1 (by simp)
      have q2 := Near.cell (w := wr.drew) (row := none) x2 (by simp)
      have q3 := Near.cell (w := wr.drew) (row := none) x3 (by simp)
      have q4 := Near.cell (w := wr.drew) (row := none) x4 (by simp)
      have q5 := Near.cell (w := wr.drew) (row := none) x5 (by simp)
      have q6 := Near.cell (w := wr.drew) (row := none) x6 (by simp)
      have q7 := Near.cell (w := wr.drew) (row := none) x7 (by simp)
      have q8 := Near.cell (w := wr.drew) (row := none) x8 (by simp)
      have q9 := Near.cell (w := wr.drew) (row := none) x9 (by simp)
      have q10 := Near.cell (w := wr.drew) (row := none) x10 (by simp)
      refine wp_region_mix (fun w' => ∃ x : Near wr.drew none, w' = x.world) [3] 4 (by kernel_rfl) rfl ?_
      refine mix_reads_lit [0, 1] 2 (by kernel_rfl) (by kernel_rfl) (by kernel_rfl) (by kernel_rfl) rfl (NearC.of (World.grownBy.refl _ _)) ?_
      simp only [pick, List.filterMap_cons, List.filterMap_nil, List.getElem?_cons_succ, List.getElem?_cons_zero]
      repeat (first | go_big_quiet_step (fail) | quiet_step (fail))
      refine wpQuiet_nil ?_
      refine mix_flat_lit [2] 1 (by kernel_rfl) (by kernel_rfl) (by kernel_rfl) (by kernel_rfl) rfl ?_
      simp only [pick, List.filterMap_cons, List.filterMap_nil, List.getElem?_cons_succ, List.getElem?_cons_zero]
      repeat (first | go_big_quiet_step (fail) | quiet_step (fail))
      refine wpQuiet_nil ?_
      obtain ⟨fz0, fz1, fz2, fz3, fz4, fz5, fz6, fz7, fz8, fz9, fz10⟩ := HZ.out.elevenF
      obtain ⟨z0, z1, z2, z3, z4, z5, z6, z7, z8, z9, z10⟩ := HZ.out.eleven
      refine mix_deed_lit 3 0 (by kernel_rfl) (by kernel_rfl) rfl (fun K hK => ?_)
      simp only [comesUp, List.getElem?_cons_succ, List.getElem?_cons_zero]
      refine if_mk rfl ?_
      go_simp
      refine hK _ _ (fun h => by simp [keeps] at h) ?_
      clear hK K
      refine mix_done_lit (by kernel_rfl) ?_
      refine q_name fun U hU => ?_
      have hfu := fill11 HZ.out (.int .i64 (D.blocks : Int)) (.int .i64 (D.size : Int)) (.slice la xs.length lc) (.slice wa ys.length wc) (.bool D.lit) (.int .i64 D.after) (.int .i64 D.torn) (.int .i64 D.cut) (.slice ka D.keep.length kc) (.bool D.off) (.int .i64 D.count)
      have hfv : BoxAt U w.heap.size [.int .i64 (D.blocks : Int), .int .i64 (D.size : Int), .slice la xs.length lc, .slice wa ys.length wc, .bool D.lit, .int .i64 D.after, .int .i64 D.torn, .int .i64 D.cut, .slice ka D.keep.length kc, .bool D.off, .int .i64 D.count] ∧ wr.grownBy U (some w.heap.size) := by
        rw [hU]
        exact drew11 hfu
      have HZU := Lib.hid hfv.1
      have HGU := Lib.hid hfv.2
      clear hU hfu hfv x0 x1 x2 x3 x4 x5 x6 x7 x8 x9 x10 q0 q1 q2 q3 q4 q5 q6 q7 q8 q9 q10 fz0 fz1 fz2 fz3 fz4 fz5 fz6 fz7 fz8 fz9 fz10 z0 z1 z2 z3 z4 z5 z6 z7 z8 z9 z10
      obtain ⟨z0, z1, z2, z3, z4, z5, z6, z7, z8, z9, z10⟩ := HZU.out.eleven
      go_wp2_with fail
      refine bodyPost_ret (v := .tuple #[.pointer (some ⟨p, 0, none⟩), refD D (.slice la xs.length lc) (.slice wa ys.length wc) (.slice ka D.keep.length kc)]) (by simp [results, Tryd.results21, go_sem, refD, z0, z1, z2, z3, z4, z5, z6, z7, z8, z9, z10]) rfl ?_
      have hsU := HGU.out.size
      rw [HMIN.out]
      refine ⟨⟨p, _, F, G, rfl, HDD.out.on fun q hq => HGU.out.block q (HF.out q hq) (by have := HOUT.out.2.2.1; intro e; cases e; exact this hq), ⟨_, _, _, _, _, rfl, HR.out.on fun q hq => HGU.out.block q (HG.out q hq) (by have := HOUT.out.2.2.2; intro e; cases e; exact this hq)⟩, fun q hq => Nat.lt_of_lt_of_le (HF.out q hq) hsU, fun q hq => Nat.lt_of_lt_of_le (HG.out q hq) hsU, HGF.out, HFW.out⟩, HB.out.grown HGU.out HB.out.size (by intro q hq; cases hq; exact Nat.le_refl _)⟩

end Go.Proofs.YtflbioiildndoaaDoor
