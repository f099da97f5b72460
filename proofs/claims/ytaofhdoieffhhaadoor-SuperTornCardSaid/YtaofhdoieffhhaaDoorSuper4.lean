/- superblocks: super.Open -/
import Derived.Test.YtaofhdoieffhhaaDoorSuper3
import Derived.Test.YtaofhdoieffhhaaDoorPagePlaces
namespace Go.Proofs.YtaofhdoieffhhaaDoor
open Go.RowKit
set_option linter.unusedVariables false
set_option linter.unusedSimpArgs false

/-- what Open of a superblock tells: what is said, the code, the page that is named -/
def supOpenT (l : List UInt8) (at_ : Int) : Su.Sup × Nat × Int :=
  if at_ = 0 ∨ at_ = 1 then (match Su.supOpen l at_ with | some s => (s, 0, -1) | none => (Su.zero, 5, at_)) else (Su.zero, 2, -1)
def SupErr (w : World) (A : Nat → Addr) (r : Su.Sup × Nat × Int) (e : Ending) (w' : World) : Prop :=
  ∃ ev lp, e = .returned (.tuple #[supV r.1, ev]) ∧ ErrIs w' A w.heap.size lp r.2.1 ev ∧ pageOf lp = r.2.2 ∧ lp.length ≤ 1
theorem supOpen_not {l : List UInt8} {at_ : Int} (hat : at_ = 0 ∨ at_ = 1) (h : ¬ Su.supOpens l at_) : supOpenT l at_ = (Su.zero, 5, at_) := by
  unfold supOpenT Su.supOpen
  rw [if_pos hat, if_neg h]
theorem supOpen_yes {l : List UInt8} {at_ : Int} (hat : at_ = 0 ∨ at_ = 1) (h : Su.supOpens l at_) : supOpenT l at_ = (Su.saidL (Pg.readL l), 0, -1) := by
  unfold supOpenT Su.supOpen
  rw [if_pos hat, if_pos h]
theorem said_is (p : Pg.Page) (s : Su.Sup) (B : Bool) (h1 : saidS p = s) (h2 : Su.says p = B) (a : Option Addr) (c : Nat) (w : World) (A : Nat → Addr) {S : Nat → Prop} [Has S 1] [Has S 2] [Has S 5] (hs : SentsOn S w A) (hb : BytesAt w (.slice a p.body.length c) p.body) (hg : p.gen < 18446744073709551616) (hl : p.body.length ≤ 140737488351232) :
    Calls Tryd.prog 57 #[.agg #[.int .i64 p.kind, .int .i64 p.id, .int .u64 (p.gen : Int), .slice a p.body.length c]] w fun e w' => e = .returned (.tuple #[.agg #[.int .u64 (s.gen : Int), .int .i64 s.blocks, .int .i64 s.size, .int .i64 s.root, .int .i64 s.keys], .bool B]) ∧ Below w.heap.size w w' := by
  subst h1 h2
  exact said_any p a c w A hs hb hg hl
theorem openAt_code {l : List UInt8} {at_ : Int} : (∃ k X, k ≠ 0 ∧ Pg.openAtL l at_ = (Pg.zero, k, X) ∧ ¬ Su.supOpens l at_) ∨ (Pg.opens l ∧ (Pg.readL l).id = at_ ∧ Pg.openAtL l at_ = (Pg.readL l, 0, -1)) := by
  by_cases h : Pg.opens l
  · by_cases hid : (Pg.readL l).id = at_
    · right
      refine ⟨h, hid, ?_⟩
      unfold Pg.openAtL
      rw [if_neg (by rw [(Pg.open_code l).2 h]; decide), Pg.open_page h, if_neg (by simpa using hid)]
    · left
      refine ⟨5, max at_ (-1), by decide, ?_, fun h2 => hid h2.2.1⟩
      unfold Pg.openAtL
      rw [if_neg (by rw [(Pg.open_code l).2 h]; decide), Pg.open_page h, if_pos hid]
  · left
    refine ⟨(Pg.openL l).2.1, (Pg.openL l).2.2, fun h0 => h ((Pg.open_code l).1 h0), ?_, fun h2 => h h2.1⟩
    unfold Pg.openAtL
    rw [if_pos (fun h0 => h ((Pg.open_code l).1 h0)), ← Pg.open_not h]

def supZ : List Value := [.int .u64 0, .int .i64 0, .int .i64 0, .int .i64 0, .int .i64 0]
set_option maxRecDepth 100000 in
set_option maxHeartbeats 4000000 in
theorem superOpen_any (a : Option Addr) (c : Nat) (l : List UInt8) (at_ : Int) (w : World) (A : Nat → Addr) {S : Nat → Prop} [Has S 1] [Has S 2] [Has S 5] (hs : SentsOn S w A) (hb : BytesAt w (.slice a l.length c) l) :
    Calls Tryd.prog 34 #[.slice a l.length c, .int .i64 at_] w fun e w' => SupErr w A (supOpenT l at_) e w' ∧ Below w.heap.size w w' := by
  have HS := Lib.hid hs
  have HB := Lib.hid hb
  have g2 : w.cell? ⟨0, 0, none⟩ = some (.iface 136 (.pointer (some (A 2)))) := hs.cell 2 (by decide) (by decide)
  have g5 : w.cell? ⟨1, 0, none⟩ = some (.iface 136 (.pointer (some (A 5)))) := hs.cell 5 (by decide) (by decide)
  have l2 := World.block_lt_of_cell? w _ g2
  have l5 := World.block_lt_of_cell? w _ g5
  simp only at l2 l5
  have HG5 := Lib.hid g5
  clear hs hb
  by_cases hat : at_ = 0 ∨ at_ = 1
  · have hat2 : (at_ != 0) = false ∨ ((at_ != 0) = true ∧ (at_ != 1) = false) := by
      rcases hat with rfl | rfl
      · exact .inl rfl
      · exact .inr ⟨rfl, rfl⟩
    have hmx : max at_ (-1) = at_ := by omega
    have HPO := Lib.hid (show pageOf [max at_ (-1)] = at_ by rw [pageOf_max, hmx])
    rcases openAt_code (l := l) (at_ := at_) with ⟨k, X, hk, hr, hno⟩ | ⟨ho, hid, hr⟩
    · have HT := Lib.hid (supOpen_not hat hno)
      have HR := Lib.hid hr
      have HK := Lib.hid hk
      clear hno hr hk hmx hat
      rcases hat2 with h0 | ⟨h0, h1⟩
      all_goals
        go_enter Tryd.func34, Tryd.ntmps34
        go_wp2_with (first
          | (go_at_call 37; (refine (openAt_is a c l at_ Pg.zero k X HR.out _ A (HS.out.below (by go_grown)) (HB.out.alloc _)).mono ?_); (rintro e w1 ⟨⟨a1, c1, ev, lp, rfl, ho1, hE1, hp1, hl1⟩, hb1⟩); (obtain ⟨t1, x1, rfl⟩ := hE1.iface HK.out); (have HX := Lib.hid ((BoxAt.new w [.int .u64 0, .int .i64 0, .int .i64 0, .int .i64 0, .int .i64 0] 48).below hb1)); (have HB1 := Lib.hid ((show Below w.heap.size w _ by go_grown).trans (hb1.mono (by simp)))); (have hs1 := hb1.size); (simp only [World.size_alloc] at hs1); (have k1 : 1 < w1.heap.size := by omega); (have g52 := (HB1.out.cell (p := ⟨1, 0, none⟩) l5).trans HG5.out); (clear ho1 hE1 hp1 hl1 hb1))
          | (go_at_call 48; (refine (faultAt_any _ at_ [] 5 _ _ A _ (sent_err 5 (by decide) (by decide)) (by decide) (Nat.le_refl _)).mono ?_); (rintro e w2 ⟨⟨v, rfl, hv⟩, hb2⟩); (have HX2 := Lib.hid ((HX.out.alloc _).below hb2)); (obtain ⟨m0, m1, m2, m3, m4⟩ := HX2.out.five); (obtain ⟨f0, f1, f2, f3, f4⟩ := HX2.out.five_free); (have HV := Lib.hid (hv.mono (B' := w.heap.size + 1) (by simp; omega))); (have HB2 := Lib.hid (below_step HB1.out (below_step ((Below.refl w1.heap.size w1).alloc (Nat.le_refl _) _) hb2))); (clear hv hb2)))
        refine bodyPost_ret (v := .tuple #[supV Su.zero, v]) (by simp [results, Tryd.results34, go_sem, m0, m1, m2, m3, m4, supV, Su.zero]) rfl ?_
        have hb := HB2.out
        rw [HT.out]
        refine ⟨⟨_, _, rfl, (((((HV.out.setLow _ (Nat.lt_succ_self _)).setLow _ (Nat.lt_succ_self _)).setLow _ (Nat.lt_succ_self _)).setLow _ (Nat.lt_succ_self _)).setLow _ (Nat.lt_succ_self _)).mono (Nat.le_succ _), HPO.out, by simp⟩, by go_grown⟩
    · have hck := Pg.check_ok ho.1
      have hpl : (Pg.readL l).body.length ≤ 140737488351232 := by omega
      have hpg := Pg.read_gen l
      have hopen : Su.supOpens l at_ ↔ (Su.says (Pg.readL l) = true ∧ (Su.saidL (Pg.readL l)).size = (l.length : Int)) := by
        unfold Su.supOpens
        exact ⟨fun h => h.2.2, fun h => ⟨ho, hid, h⟩⟩
      have hsd : Su.says (Pg.readL l) = true → saidS (Pg.readL l) = Su.saidL (Pg.readL l) := fun h => by
        unfold saidS
        rw [if_neg (by unfold Su.says at h; simp at h; omega)]
      have hyes := fun h => supOpen_yes (l := l) hat h
      generalize hp : Pg.readL l = p at *
      have HR := Lib.hid hr
      clear hr hid ho hck hmx hp
      obtain ⟨sd, hsd2⟩ : ∃ sd, saidS p = sd := ⟨_, rfl⟩
      have HSD := Lib.hid hsd2
      cases hsy : Su.says p with
      | false =>
        have HT := Lib.hid (supOpen_not (l := l) hat (fun h => by have := hopen.1 h; rw [hsy] at this; cases this.1))
        have HSY := Lib.hid hsy
        clear hsy hopen hsd hyes hsd2 hat
        rcases hat2 with h0 | ⟨h0, h1⟩
        all_goals
          go_enter Tryd.func34, Tryd.ntmps34
          go_wp2_with (first
            | (go_at_call 37; (refine (openAt_is a c l at_ p 0 (-1) HR.out _ A (HS.out.below (by go_grown)) (HB.out.alloc _)).mono ?_); (rintro e w1 ⟨⟨a1, c1, ev, lp, rfl, ho1, hE1, hp1, hl1⟩, hb1⟩); (obtain ⟨rfl, rfl⟩ := hE1.isNil); (have HX := Lib.hid ((BoxAt.new w [.int .u64 0, .int .i64 0, .int .i64 0, .int .i64 0, .int .i64 0] 48).below hb1)); (have HO1 := Lib.hid ho1); (have HB1 := Lib.hid ((show Below w.heap.size w _ by go_grown).trans (hb1.mono (by simp)))); (have hs1 := hb1.size); (simp only [World.size_alloc] at hs1); (clear ho1 hE1 hp1 hl1 hb1))
            | (go_at_call 57; (refine (said_is p sd false HSD.out HSY.out a1 c1 _ A (HS.out.below (HB1.out.alloc (by omega) _)) (HO1.out.alloc _).bytes hpg hpl).mono ?_); (rintro e w2 ⟨rfl, hb2⟩); (have HX2 := Lib.hid ((HX.out.alloc _).below hb2)); (have HB2 := Lib.hid (below_step HB1.out (below_step ((Below.refl w1.heap.size w1).alloc (Nat.le_refl _) _) hb2))); (have hs2 := hb2.size); (simp only [World.size_alloc] at hs2); (have k1 : 1 < w2.heap.size := by omega); (have k2 : w.heap.size < w2.heap.size := by omega); (have g52 := (HB2.out.cell (p := ⟨1, 0, none⟩) l5).trans HG5.out); (obtain ⟨m0, m1, m2, m3, m4⟩ := HX2.out.five); (obtain ⟨f0, f1, f2, f3, f4⟩ := HX2.out.five_free); (clear hb2))
            | (go_at_call 48; (refine (faultAt_any _ at_ [] 5 _ _ A _ (sent_err 5 (by decide) (by decide)) (by decide) (Nat.le_refl _)).mono ?_); (rintro e w3 ⟨⟨v, rfl, hv⟩, hb3⟩); (have HX3 := Lib.hid ((HX2.out.alloc _).below hb3)); (obtain ⟨y0, y1, y2, y3, y4⟩ := HX3.out.five); (obtain ⟨yf0, yf1, yf2, yf3, yf4⟩ := HX3.out.five_free); (have HV := Lib.hid (hv.mono (B' := w.heap.size + 1) (by simp; omega))); (have HB3 := Lib.hid (below_step HB2.out (below_step ((Below.refl w2.heap.size w2).alloc (Nat.le_refl _) _) hb3))); (clear hv hb3)))
          refine bodyPost_ret (v := .tuple #[supV Su.zero, v]) (by simp [results, Tryd.results34, go_sem, y0, y1, y2, y3, y4, supV, Su.zero]) rfl ?_
          have hb := HB3.out
          rw [HT.out]
          refine ⟨⟨_, _, rfl, (((((HV.out.setLow _ (Nat.lt_succ_self _)).setLow _ (Nat.lt_succ_self _)).setLow _ (Nat.lt_succ_self _)).setLow _ (Nat.lt_succ_self _)).setLow _ (Nat.lt_succ_self _)).mono (Nat.le_succ _), HPO.out, by simp⟩, by go_grown⟩
      | true =>
        have hsL := hsd hsy
        rw [hsd2] at hsL
        have HSY := Lib.hid hsy
        by_cases hsz : sd.size = (l.length : Int)
        · have HT := Lib.hid (hyes (hopen.2 ⟨hsy, by rw [← hsL]; exact hsz⟩))
          rw [← hsL] at HT
          have hz2 : (sd.size != (l.length : Int)) = false := by simpa using hsz
          clear hsy hopen hsd hyes hsd2 hat hsL hsz
          rcases hat2 with h0 | ⟨h0, h1⟩
          all_goals
            go_enter Tryd.func34, Tryd.ntmps34
            go_wp2_with (first
              | (go_at_call 37; (refine (openAt_is a c l at_ p 0 (-1) HR.out _ A (HS.out.below (by go_grown)) (HB.out.alloc _)).mono ?_); (rintro e w1 ⟨⟨a1, c1, ev, lp, rfl, ho1, hE1, hp1, hl1⟩, hb1⟩); (obtain ⟨rfl, rfl⟩ := hE1.isNil); (have HX := Lib.hid ((BoxAt.new w [.int .u64 0, .int .i64 0, .int .i64 0, .int .i64 0, .int .i64 0] 48).below hb1)); (have HO1 := Lib.hid ho1); (have HB1 := Lib.hid ((show Below w.heap.size w _ by go_grown).trans (hb1.mono (by simp)))); (have hs1 := hb1.size); (simp only [World.size_alloc] at hs1); (clear ho1 hE1 hp1 hl1 hb1))
              | (go_at_call 57; (refine (said_is p sd true HSD.out HSY.out a1 c1 _ A (HS.out.below (HB1.out.alloc (by omega) _)) (HO1.out.alloc _).bytes hpg hpl).mono ?_); (rintro e w2 ⟨rfl, hb2⟩); (have HX2 := Lib.hid ((HX.out.alloc _).below hb2)); (have HB2 := Lib.hid (below_step HB1.out (below_step ((Below.refl w1.heap.size w1).alloc (Nat.le_refl _) _) hb2))); (have hs2 := hb2.size); (simp only [World.size_alloc] at hs2); (have k1 : 1 < w2.heap.size := by omega); (have k2 : w.heap.size < w2.heap.size := by omega); (have g52 := (HB2.out.cell (p := ⟨1, 0, none⟩) l5).trans HG5.out); (obtain ⟨m0, m1, m2, m3, m4⟩ := HX2.out.five); (obtain ⟨f0, f1, f2, f3, f4⟩ := HX2.out.five_free); (clear hb2)))
            refine bodyPost_ret (v := .tuple #[supV sd, .nilIface]) (by simp [results, Tryd.results34, go_sem, m0, m1, m2, m3, m4, supV, k2, Nat.ne_of_gt k2, Nat.ne_of_lt k2]) rfl ?_
            have hb := HB2.out
            rw [HT.out]
            exact ⟨⟨_, [], rfl, ErrIs.nil _ _ _, rfl, by simp⟩, by go_grown⟩
        · have HT := Lib.hid (supOpen_not (l := l) hat (fun h => hsz (by rw [hsL]; exact (hopen.1 h).2)))
          have hz2 : (sd.size != (l.length : Int)) = true := by simpa using hsz
          clear hsy hopen hsd hyes hsd2 hat hsL hsz
          rcases hat2 with h0 | ⟨h0, h1⟩
          all_goals
            go_enter Tryd.func34, Tryd.ntmps34
            go_wp2_with (first
              | (go_at_call 37; (refine (openAt_is a c l at_ p 0 (-1) HR.out _ A (HS.out.below (by go_grown)) (HB.out.alloc _)).mono ?_); (rintro e w1 ⟨⟨a1, c1, ev, lp, rfl, ho1, hE1, hp1, hl1⟩, hb1⟩); (obtain ⟨rfl, rfl⟩ := hE1.isNil); (have HX := Lib.hid ((BoxAt.new w [.int .u64 0, .int .i64 0, .int .i64 0, .int .i64 0, .int .i64 0] 48).below hb1)); (have HO1 := Lib.hid ho1); (have HB1 := Lib.hid ((show Below w.heap.size w _ by go_grown).trans (hb1.mono (by simp)))); (have hs1 := hb1.size); (simp only [World.size_alloc] at hs1); (clear ho1 hE1 hp1 hl1 hb1))
              | (go_at_call 57; (refine (said_is p sd true HSD.out HSY.out a1 c1 _ A (HS.out.below (HB1.out.alloc (by omega) _)) (HO1.out.alloc _).bytes hpg hpl).mono ?_); (rintro e w2 ⟨rfl, hb2⟩); (have HX2 := Lib.hid ((HX.out.alloc _).below hb2)); (have HB2 := Lib.hid (below_step HB1.out (below_step ((Below.refl w1.heap.size w1).alloc (Nat.le_refl _) _) hb2))); (have hs2 := hb2.size); (simp only [World.size_alloc] at hs2); (have k1 : 1 < w2.heap.size := by omega); (have k2 : w.heap.size < w2.heap.size := by omega); (have g52 := (HB2.out.cell (p := ⟨1, 0, none⟩) l5).trans HG5.out); (obtain ⟨m0, m1, m2, m3, m4⟩ := HX2.out.five); (obtain ⟨f0, f1, f2, f3, f4⟩ := HX2.out.five_free); (clear hb2))
              | (go_at_call 48; (refine (faultAt_any _ at_ [] 5 _ _ A _ (sent_err 5 (by decide) (by decide)) (by decide) (Nat.le_refl _)).mono ?_); (rintro e w3 ⟨⟨v, rfl, hv⟩, hb3⟩); (have HX3 := Lib.hid ((HX2.out.alloc _).below hb3)); (obtain ⟨y0, y1, y2, y3, y4⟩ := HX3.out.five); (obtain ⟨yf0, yf1, yf2, yf3, yf4⟩ := HX3.out.five_free); (have HV := Lib.hid (hv.mono (B' := w.heap.size + 1) (by simp; omega))); (have HB3 := Lib.hid (below_step HB2.out (below_step ((Below.refl w2.heap.size w2).alloc (Nat.le_refl _) _) hb3))); (clear hv hb3)))
            refine bodyPost_ret (v := .tuple #[supV Su.zero, v]) (by simp [results, Tryd.results34, go_sem, y0, y1, y2, y3, y4, supV, Su.zero]) rfl ?_
            have hb := HB3.out
            rw [HT.out]
            refine ⟨⟨_, _, rfl, (((((HV.out.setLow _ (Nat.lt_succ_self _)).setLow _ (Nat.lt_succ_self _)).setLow _ (Nat.lt_succ_self _)).setLow _ (Nat.lt_succ_self _)).setLow _ (Nat.lt_succ_self _)).mono (Nat.le_succ _), HPO.out, by simp⟩, by go_grown⟩
  · have h0 : (at_ != 0) = true := by simp; omega
    have h1 : (at_ != 1) = true := by simp; omega
    have HT : Hid (supOpenT l at_ = (Su.zero, 2, -1)) := Lib.hid (by unfold supOpenT; rw [if_neg hat])
    clear hat
    go_enter Tryd.func34, Tryd.ntmps34
    go_wp2_with (go_at_call 45; (refine (faultNew_any _ 2 _ _ A _ (sent_err 2 (by decide) (by decide)) (by decide) (Nat.le_refl _)).mono ?_); (rintro e w3 ⟨⟨v, rfl, hv⟩, hb3⟩); (have HX3 := Lib.hid ((BoxAt.new w [.int .u64 0, .int .i64 0, .int .i64 0, .int .i64 0, .int .i64 0] 48).below hb3)); (obtain ⟨y0, y1, y2, y3, y4⟩ := HX3.out.five); (obtain ⟨yf0, yf1, yf2, yf3, yf4⟩ := HX3.out.five_free); (have HV := Lib.hid (hv.mono (B' := w.heap.size + 1) (by simp))); (have HB3 := Lib.hid ((show Below w.heap.size w _ by go_grown).trans (hb3.mono (by simp)))); (clear hv hb3))
    refine bodyPost_ret (v := .tuple #[supV Su.zero, v]) (by simp [results, Tryd.results34, go_sem, y0, y1, y2, y3, y4, supV, Su.zero]) rfl ?_
    have hb := HB3.out
    rw [HT.out]
    refine ⟨⟨_, _, rfl, (((((HV.out.setLow _ (Nat.lt_succ_self _)).setLow _ (Nat.lt_succ_self _)).setLow _ (Nat.lt_succ_self _)).setLow _ (Nat.lt_succ_self _)).setLow _ (Nat.lt_succ_self _)).mono (Nat.le_succ _), rfl, by simp⟩, by go_grown⟩
end Go.Proofs.YtaofhdoieffhhaaDoor
