/- pages: the document's OpenAt -/
import Derived.Test.YtlobelfnjabajaaDoorRefOpen
namespace Go.Proofs.YtlobelfnjabajaaDoor
open Go.RowKit
set_option linter.unusedVariables false
set_option linter.unusedSimpArgs false

theorem refOpen_fail (a : Option Addr) (c : Nat) (l : List UInt8) (w : World) (hb : BytesAt w (.slice a l.length c) l) (h : ¬ Pg.opens l) (K X : Int) (hK : ((Pg.openL l).2.1 : Int) = K) (hX : (Pg.openL l).2.2 = X) :
    Calls Tryd.prog 107 #[.slice a l.length c] w fun e w' => (∃ a1 c1, e = .returned (.tuple #[.agg #[.int .i64 0, .int .i64 0, .int .u64 0, .slice a1 0 c1], .int .i64 K, .int .i64 X]) ∧ Own w' w.heap.size (.slice a1 0 c1) []) ∧ Below w.heap.size w w' := by
  subst hK hX
  refine (refOpen_any a c l w hb).mono fun e w' ⟨⟨a1, c1, he, ho⟩, hb⟩ => ⟨?_, hb⟩
  rw [Pg.open_not h] at he ho
  exact ⟨a1, c1, he, ho⟩
theorem refOpen_good (a : Option Addr) (c : Nat) (l : List UInt8) (p : Pg.Page) (hp : Pg.readL l = p) (w : World) (hb : BytesAt w (.slice a l.length c) l) (h : Pg.opens l) :
    Calls Tryd.prog 107 #[.slice a l.length c] w fun e w' => (∃ a1 c1, e = .returned (.tuple #[.agg #[.int .i64 p.kind, .int .i64 p.id, .int .u64 (p.gen : Int), .slice a1 p.body.length c1], .int .i64 0, .int .i64 (-1)]) ∧ Own w' w.heap.size (.slice a1 p.body.length c1) p.body) ∧ Below w.heap.size w w' := by
  subst hp
  refine (refOpen_any a c l w hb).mono fun e w' ⟨⟨a1, c1, he, ho⟩, hb⟩ => ⟨?_, hb⟩
  rw [Pg.open_page h] at he ho
  exact ⟨a1, c1, he, ho⟩

set_option maxRecDepth 100000 in
set_option maxHeartbeats 2000000 in
theorem refOpenAt_fail (a : Option Addr) (c : Nat) (l : List UInt8) (id : Int) (w : World) (hb : BytesAt w (.slice a l.length c) l) (h : ¬ Pg.opens l) :
    Calls Tryd.prog 86 #[.slice a l.length c, .int .i64 id] w fun e w' => OpenCode w (Pg.openL l) e w' ∧ Below w.heap.size w w' := by
  have HB := Lib.hid hb
  have HN := Lib.hid h
  obtain ⟨K, hK⟩ : ∃ K : Int, ((Pg.openL l).2.1 : Int) = K := ⟨_, rfl⟩
  obtain ⟨X, hX⟩ : ∃ X : Int, (Pg.openL l).2.2 = X := ⟨_, rfl⟩
  have hk : (K != 0) = true := by
    have : (Pg.openL l).2.1 ≠ 0 := fun h0 => h ((Pg.open_code l).1 h0)
    simp
    omega
  have HK := Lib.hid hK
  have HX := Lib.hid hX
  clear hb h hK hX
  go_enter Tryd.func86, Tryd.ntmps86
  go_wp2_with (go_at_call 107; (refine (refOpen_fail a c l _ (HB.out.alloc _) HN.out K X HK.out HX.out).mono ?_); (rintro e w1 ⟨⟨a1, c1, rfl, ho1⟩, hb1⟩); (have HO1 := Lib.hid ho1); (have HX1 := Lib.hid ((Box4.new _ _ _ _ _ _).below hb1)); (obtain ⟨m0, m1, m2, m3, f0, f1, f2, f3⟩ := HX1.out); (have hs1 := hb1.size); (simp only [World.size_alloc] at hs1); (have hbw1 : Below w.heap.size w w1 := (show Below w.heap.size w _ by go_grown).trans (hb1.mono (by simp))); (have k1 : w.heap.size < w1.heap.size := by omega); (have k2 : ¬ w1.heap.size = w.heap.size := Nat.ne_of_gt k1); (have k3 : ¬ w.heap.size = w1.heap.size := Nat.ne_of_lt k1); (clear ho1 hb1))
  refine bodyPost_ret (v := .tuple #[.agg #[.int .i64 0, .int .i64 0, .int .u64 0, .slice a1 0 c1], .int .i64 K, .int .i64 X]) (by simp [results, Tryd.results86, go_sem, m0, m1, m2, m3, k1, k2, k3]) rfl ?_
  refine ⟨⟨a1, c1, ?_, ?_⟩, by go_grown⟩
  · rw [Pg.open_not HN.out, ← HK.out, ← HX.out]; rfl
  · rw [Pg.open_not HN.out]
    exact ((Own.setLow (Own.setLow (Own.setLow (Own.setLow HO1.out _ (by simp)) _ (by simp)) _ (by simp)) _ (by simp)).alloc _).mono (by simp)
set_option maxRecDepth 100000 in
set_option maxHeartbeats 2000000 in
theorem refOpenAt_good (a : Option Addr) (c : Nat) (l : List UInt8) (id : Int) (w : World) (hb : BytesAt w (.slice a l.length c) l) (h : Pg.opens l) :
    Calls Tryd.prog 86 #[.slice a l.length c, .int .i64 id] w fun e w' => OpenCode w (if (Pg.readL l).id ≠ id then (Pg.zero, 5, max id (-1)) else (Pg.readL l, 0, -1)) e w' ∧ Below w.heap.size w w' := by
  have HB := Lib.hid hb
  have HN := Lib.hid h
  generalize hp : Pg.readL l = p at *
  have HP := Lib.hid hp
  clear hb h hp
  by_cases hid : p.id = id
  · rw [if_neg (by simpa using hid)]
    have hne2 : (p.id != id) = false := by simpa using hid
    clear hid
    go_enter Tryd.func86, Tryd.ntmps86
    go_wp2_with (go_at_call 107; (refine (refOpen_good a c l p HP.out _ (HB.out.alloc _) HN.out).mono ?_); (rintro e w1 ⟨⟨a1, c1, rfl, ho1⟩, hb1⟩); (have HO1 := Lib.hid ho1); (have HX1 := Lib.hid ((Box4.new _ _ _ _ _ _).below hb1)); (obtain ⟨m0, m1, m2, m3, f0, f1, f2, f3⟩ := HX1.out); (have hs1 := hb1.size); (simp only [World.size_alloc] at hs1); (have hbw1 : Below w.heap.size w w1 := (show Below w.heap.size w _ by go_grown).trans (hb1.mono (by simp))); (have k1 : w.heap.size < w1.heap.size := by omega); (have k2 : ¬ w1.heap.size = w.heap.size := Nat.ne_of_gt k1); (have k3 : ¬ w.heap.size = w1.heap.size := Nat.ne_of_lt k1); (clear ho1 hb1))
    refine bodyPost_ret (v := .tuple #[pageV p (.slice a1 p.body.length c1), .int .i64 0, .int .i64 (-1)]) (by simp [results, Tryd.results86, go_sem, m0, m1, m2, m3, pageV, k1, k2, k3]) rfl ?_
    refine ⟨⟨a1, c1, rfl, ?_⟩, by go_grown⟩
    exact ((Own.setLow (Own.setLow (Own.setLow (Own.setLow HO1.out _ (by simp)) _ (by simp)) _ (by simp)) _ (by simp)).alloc _).mono (by simp)
  · rw [if_pos (by simpa using hid)]
    rcases (show (id < -1 ∧ max id (-1) = -1) ∨ (-1 ≤ id ∧ max id (-1) = id) by omega) with ⟨hm, hmx⟩ | ⟨hm, hmx⟩
    · have HMX := Lib.hid hmx
      clear hmx
      have hne2 : (p.id != id) = true := by simpa using hid
      clear hid
      go_enter Tryd.func86, Tryd.ntmps86
      go_wp2_with (go_at_call 107; (refine (refOpen_good a c l p HP.out _ (HB.out.alloc _) HN.out).mono ?_); (rintro e w1 ⟨⟨a1, c1, rfl, ho1⟩, hb1⟩); (have HX1 := Lib.hid ((Box4.new _ _ _ _ _ _).below hb1)); (obtain ⟨m0, m1, m2, m3, f0, f1, f2, f3⟩ := HX1.out); (have hs1 := hb1.size); (simp only [World.size_alloc] at hs1); (have hbw1 : Below w.heap.size w w1 := (show Below w.heap.size w _ by go_grown).trans (hb1.mono (by simp))); (have k1 : w.heap.size < w1.heap.size := by omega); (have k2 : ¬ w1.heap.size = w.heap.size := Nat.ne_of_gt k1); (have k3 : ¬ w.heap.size = w1.heap.size := Nat.ne_of_lt k1); (clear ho1 hb1))
      all_goals refine bodyPost_ret (v := .tuple #[zeroV, .int .i64 5, .int .i64 (-1)]) (by simp [results, Tryd.results86, go_sem, m0, m1, m2, m3, zeroV, k1, k2, k3]) rfl ?_
      all_goals exact ⟨by rw [HMX.out]; exact zero_code, by go_grown⟩
    · have HMX := Lib.hid hmx
      clear hmx
      have hne2 : (p.id != id) = true := by simpa using hid
      clear hid
      go_enter Tryd.func86, Tryd.ntmps86
      go_wp2_with (go_at_call 107; (refine (refOpen_good a c l p HP.out _ (HB.out.alloc _) HN.out).mono ?_); (rintro e w1 ⟨⟨a1, c1, rfl, ho1⟩, hb1⟩); (have HX1 := Lib.hid ((Box4.new _ _ _ _ _ _).below hb1)); (obtain ⟨m0, m1, m2, m3, f0, f1, f2, f3⟩ := HX1.out); (have hs1 := hb1.size); (simp only [World.size_alloc] at hs1); (have hbw1 : Below w.heap.size w w1 := (show Below w.heap.size w _ by go_grown).trans (hb1.mono (by simp))); (have k1 : w.heap.size < w1.heap.size := by omega); (have k2 : ¬ w1.heap.size = w.heap.size := Nat.ne_of_gt k1); (have k3 : ¬ w.heap.size = w1.heap.size := Nat.ne_of_lt k1); (clear ho1 hb1))
      all_goals refine bodyPost_ret (v := .tuple #[zeroV, .int .i64 5, .int .i64 id]) (by simp [results, Tryd.results86, go_sem, m0, m1, m2, m3, zeroV, k1, k2, k3]) rfl ?_
      all_goals exact ⟨by rw [HMX.out]; exact zero_code, by go_grown⟩
theorem refOpenAt_any (a : Option Addr) (c : Nat) (l : List UInt8) (id : Int) (w : World) (hb : BytesAt w (.slice a l.length c) l) :
    Calls Tryd.prog 86 #[.slice a l.length c, .int .i64 id] w fun e w' => OpenCode w (Pg.openAtL l id) e w' ∧ Below w.heap.size w w' := by
  unfold Pg.openAtL
  by_cases h : Pg.opens l
  · rw [if_neg (by rw [(Pg.open_code l).2 h]; decide), Pg.open_page h]
    exact refOpenAt_good a c l id w hb h
  · rw [if_pos (fun h0 => h ((Pg.open_code l).1 h0))]
    exact refOpenAt_fail a c l id w hb h
end Go.Proofs.YtlobelfnjabajaaDoor
