/- bitmaps: the document's Open -/
import Derived.Test.YtlobelfnjabajaaDoorBitmap7
import Derived.Test.YtlobelfnjabajaaDoorBitmap5
import Derived.Test.YtlobelfnjabajaaDoorRefOpenAt
namespace Go.Proofs.YtlobelfnjabajaaDoor
open Go.RowKit
set_option linter.unusedVariables false
set_option linter.unusedSimpArgs false

theorem refOpenAt_is (a : Option Addr) (c : Nat) (l : List UInt8) (id : Int) (p : Pg.Page) (k : Nat) (X : Int) (hr : Pg.openAtL l id = (p, k, X)) (w : World) (hb : BytesAt w (.slice a l.length c) l) :
    Calls Tryd.prog 86 #[.slice a l.length c, .int .i64 id] w fun e w' => (∃ a1 c1, e = .returned (.tuple #[.agg #[.int .i64 p.kind, .int .i64 p.id, .int .u64 (p.gen : Int), .slice a1 p.body.length c1], .int .i64 (k : Int), .int .i64 X]) ∧ Own w' w.heap.size (.slice a1 p.body.length c1) p.body) ∧ Below w.heap.size w w' := by
  have := refOpenAt_any a c l id w hb
  rw [hr] at this
  exact this
theorem Bm.ok_body {l : List UInt8} {at_ : Int} {gen : Nat} {blocks : Int} (h : Bm.bmOk l at_ gen blocks) : (Pg.readL l).body = Bm.bodyL (Bm.mapOf l gen blocks) := by
  obtain ⟨h1, h2, h3, h4, h5, hr, hse⟩ := h
  have hlen := (Pg.check_ok h1.1).1
  have hgen := Pg.read_gen l
  have := (Bm.read_sealB (m := Bm.mapOf l gen blocks) (at_ := at_) (size := l.length) hr h3 (by omega) (by show gen < _; omega)).2
  rw [hse] at this
  rw [this]
  rfl
theorem bytes_grownR {w w' : World} {row : Option Nat} {g o n c : Nat} {l : List UInt8} (h : BytesAt w (.slice (some ⟨g, o, none⟩) n c) l) (hg : w.grownBy w' row) (hr : row ≠ some g) : BytesAt w' (.slice (some ⟨g, o, none⟩) n c) l := by
  obtain ⟨a, c', e, h1, h2, h3⟩ := h
  refine ⟨a, c', e, h1, h2, h3.imp id ?_⟩
  rintro ⟨b, o', rfl, hc⟩
  refine ⟨b, o', rfl, fun i x hx => ?_⟩
  have e2 : g = b := by injection e with e1 e2 e3; injection e1 with e1; injection e1
  subst e2
  exact grown_cell hg (hc i x hx) hr
theorem refMapRight_is (m : Bm.Map) (B : Bool) (hB : decide (Bm.Right m) = B) (a0 : Option Addr) (c0 : Nat) (w : World) (hu : IntsAt w (.slice a0 m.used.length c0) m.used) :
    Calls Tryd.prog 28 #[.agg #[.int .u64 (m.gen : Int), .int .i64 m.blocks, .slice a0 m.used.length c0]] w fun e w' => e = .returned (.bool B) ∧ Below w.heap.size w w' := by subst hB; exact refMapRight_any m a0 c0 w hu
/-- what keeps the document's Open from looking at the bits -/
def Bm.bad (k : Nat) (p : Pg.Page) (at_ : Int) (gen : Nat) (blocks : Int) : Prop := k ≠ 0 ∨ ¬ Bm.one gen at_ ∨ p.kind ≠ 5 ∨ p.gen ≠ gen ∨ p.body.length < 8 ∨ blocks < 8 ∨ 256 < blocks
instance (k : Nat) (p : Pg.Page) (at_ : Int) (gen : Nat) (blocks : Int) : Decidable (Bm.bad k p at_ gen blocks) := by unfold Bm.bad; infer_instance
theorem Bm.bad_none {l : List UInt8} {at_ : Int} {gen : Nat} {blocks : Int} {p : Pg.Page} {k : Nat} {X : Int} (hr : Pg.openAtL l at_ = (p, k, X)) (h : Bm.bad k p at_ gen blocks) : Bm.bmOpen l at_ gen blocks = none := by
  apply bm_none
  intro ho
  have hb := Bm.ok_body ho
  obtain ⟨h1, h2, h3, h4, h5, h6, h7⟩ := ho
  rcases openAt_ways l at_ with ⟨k', X', hk, hr', hno⟩ | ⟨-, -, hr'⟩
  · exact hno ⟨h1, h2⟩
  rw [hr] at hr'
  injection hr' with e1 e2
  injection e2 with e2 e3
  subst e1 e2
  have hl := Bm.bodyL_length (Bm.mapOf l gen blocks)
  rw [← hb] at hl
  have hbl : (Bm.mapOf l gen blocks).blocks = blocks := rfl
  have h61 := h6.1
  have h62 := h6.2.1
  rw [hbl] at h61 h62
  rcases h with h | h | h | h | h | h | h
  · exact h rfl
  · exact h h3
  · exact h h4
  · exact h h5
  · omega
  · omega
  · omega
/-- what the document's Open tells -/
def refMapT (l : List UInt8) (at_ : Int) (gen : Nat) (blocks : Int) : Bm.Map × Bool := match Bm.bmOpen l at_ gen blocks with | some m => (m, true) | none => (Bm.zero, false)
def GivesRefMap (w : World) (r : Bm.Map × Bool) (e : Ending) (w' : World) : Prop :=
  ∃ a c, e = .returned (.tuple #[mapV r.1 (.slice a r.1.used.length c), .bool r.2]) ∧ OwnI w' w.heap.size (.slice a r.1.used.length c) r.1.used
theorem refMap_none {l : List UInt8} {at_ : Int} {gen : Nat} {blocks : Int} (h : Bm.bmOpen l at_ gen blocks = none) : refMapT l at_ gen blocks = (Bm.zero, false) := by unfold refMapT; rw [h]
theorem refMap_some {l : List UInt8} {at_ : Int} {gen : Nat} {blocks : Int} {m : Bm.Map} (h : Bm.bmOpen l at_ gen blocks = some m) : refMapT l at_ gen blocks = (m, true) := by unfold refMapT; rw [h]
theorem bad_false {k : Nat} {p : Pg.Page} {at_ : Int} {gen : Nat} {blocks : Int} (h : ¬ Bm.bad k p at_ gen blocks) : decide (Bm.bad k p at_ gen blocks) = false := by simpa using h
theorem bad_true {k : Nat} {p : Pg.Page} {at_ : Int} {gen : Nat} {blocks : Int} (h : Bm.bad k p at_ gen blocks) : decide (Bm.bad k p at_ gen blocks) = true := by simpa using h
set_option maxRecDepth 100000 in
set_option maxHeartbeats 8000000 in
theorem refMapOpen_any (a : Option Addr) (c : Nat) (l : List UInt8) (at_ : Int) (gen : Nat) (blocks : Int) (w : World) (hb : BytesAt w (.slice a l.length c) l) (hg : gen < 18446744073709551616) :
    Calls Tryd.prog 45 #[.slice a l.length c, .int .i64 at_, .int .u64 (gen : Int), .int .i64 blocks] w fun e w' => GivesRefMap w (refMapT l at_ gen blocks) e w' ∧ Below w.heap.size w w' := by
  have HB := Lib.hid hb
  obtain ⟨p, k, X, hr⟩ : ∃ p k X, Pg.openAtL l at_ = (p, k, X) := ⟨_, _, _, rfl⟩
  have HR := Lib.hid hr
  obtain ⟨F, hF⟩ : ∃ F, Bm.first gen = F := ⟨_, rfl⟩
  have HF := Lib.hid hF
  have hFb : 2 ≤ F ∧ F ≤ 4 := by rw [← hF]; unfold Bm.first; omega
  have hone : Bm.one gen at_ ↔ (at_ = F ∨ at_ = F + 1) := by rw [← hF]; rfl
  have HONE := Lib.hid hone
  have hbd : Bm.bad k p at_ gen blocks ↔ (k ≠ 0 ∨ ¬ Bm.one gen at_ ∨ p.kind ≠ 5 ∨ p.gen ≠ gen ∨ p.body.length < 8 ∨ blocks < 8 ∨ 256 < blocks) := Iff.rfl
  have HBD := Lib.hid hbd
  have HBN := Lib.hid (fun h => Bm.bad_none (blocks := blocks) (gen := gen) hr h)
  clear hb hr hF hone hbd
  go_enter Tryd.func45, Tryd.ntmps45
  go_upto_region 2 with (go_at_call 86; (refine (refOpenAt_is a c l at_ p k X HR.out _ (HB.out.alloc _)).mono ?_); (rintro e w1 ⟨⟨a2, c2, rfl, ho2⟩, hb1⟩); (have HX1 := Lib.hid ((BoxAt.new w [.int .u64 0, .int .i64 0, .slice none 0 0] 54).below hb1)); (have HB1 := Lib.hid ((show Below w.heap.size w _ by go_grown).trans (hb1.mono (by simp)))); (have HO2 := Lib.hid ho2); (clear ho2 hb1))
  refine wp_name fun W hW => ?_
  have HXW := Lib.hid (show BoxAt W w.heap.size [.int .u64 0, .int .i64 0, .slice none 0 0] by rw [hW]; exact HX1.out.alloc _)
  have HBW := Lib.hid (show Below w.heap.size w W by rw [hW]; exact HB1.out.alloc HB1.out.size _)
  have HPW := Lib.hid (show BoxAt W w1.heap.size [.int .i64 p.kind, .int .i64 p.id, .int .u64 (p.gen : Int), .slice a2 p.body.length c2] by rw [hW]; exact BoxAt.new w1 [_, _, _, _] _)
  have HOW := Lib.hid (show Own W (w.heap.size + 1) (.slice a2 p.body.length c2) p.body by rw [hW]; exact (HO2.out.alloc _).mono (by simp))
  have hlw := HX1.out.lt
  have hlW := HPW.out.lt
  have hn1 : ¬ w1.heap.size = w.heap.size := Nat.ne_of_gt hlw
  have hn2 : ¬ w.heap.size = w1.heap.size := Nat.ne_of_lt hlw
  clear hW
  obtain ⟨q0, q1, q2, q3⟩ := HPW.out.four
  go_cut [61] (fun v wx => v = .bool (decide (Bm.bad k p at_ gen blocks)) ∧ wx = W)
  case first =>
    by_cases c1 : k = 0
    · subst c1
      have hk0 : (((0 : Nat) : Int) != 0) = false := rfl
      rcases (show at_ = F ∨ at_ = F + 1 ∨ (at_ ≠ F ∧ at_ ≠ F + 1) by omega) with h1 | h1 | ⟨h1, h2⟩
      · have o1 : (at_ != F) = false := by simpa using h1
        have ho : Bm.one gen at_ := HONE.out.2 (by omega)
        clear h1
        by_cases g1 : p.kind = 5
        · have k1 : (p.kind != 5) = false := by simpa using g1
          by_cases g2 : p.gen = gen
          · have k2 : ((p.gen : Int) != (gen : Int)) = false := by simp; omega
            by_cases g3 : p.body.length < 8
            · have HBT := Lib.hid (bad_true (HBD.out.2 (.inr (.inr (.inr (.inr (.inl g3)))))))
              clear g1 g2
              go_wp2_with (go_at_call 42; (refine (refFirst_is gen F HF.out hg _).mono ?_); (rintro e w3 ⟨rfl, rfl⟩))
              go_meet
              exact ⟨congrArg Value.bool HBT.out.symm, rfl⟩
            by_cases g4 : blocks < 8
            · have HBT := Lib.hid (bad_true (HBD.out.2 (.inr (.inr (.inr (.inr (.inr (.inl g4))))))))
              clear g1 g2
              go_wp2_with (go_at_call 42; (refine (refFirst_is gen F HF.out hg _).mono ?_); (rintro e w3 ⟨rfl, rfl⟩))
              go_meet
              exact ⟨congrArg Value.bool HBT.out.symm, rfl⟩
            by_cases g5 : 256 < blocks
            · have HBT := Lib.hid (bad_true (HBD.out.2 (.inr (.inr (.inr (.inr (.inr (.inr g5))))))))
              clear g1 g2
              go_wp2_with (go_at_call 42; (refine (refFirst_is gen F HF.out hg _).mono ?_); (rintro e w3 ⟨rfl, rfl⟩))
              go_meet
              exact ⟨congrArg Value.bool HBT.out.symm, rfl⟩
            have HBT := Lib.hid (bad_false (fun h => by rcases HBD.out.1 h with h | h | h | h | h | h | h; exact h rfl; exact h ho; exact h g1; exact h g2; exact g3 h; exact g4 h; exact g5 h))
            clear g1 g2
            go_wp2_with (go_at_call 42; (refine (refFirst_is gen F HF.out hg _).mono ?_); (rintro e w3 ⟨rfl, rfl⟩))
            go_meet
            exact ⟨congrArg Value.bool (by rw [HBT.out]; simp; omega), rfl⟩
          · have k2 : ((p.gen : Int) != (gen : Int)) = true := by simp; omega
            have HBT := Lib.hid (bad_true (HBD.out.2 (.inr (.inr (.inr (.inl g2))))))
            clear g1 g2
            go_wp2_with (go_at_call 42; (refine (refFirst_is gen F HF.out hg _).mono ?_); (rintro e w3 ⟨rfl, rfl⟩))
            go_meet
            exact ⟨congrArg Value.bool HBT.out.symm, rfl⟩
        · have k1 : (p.kind != 5) = true := by simpa using g1
          have HBT := Lib.hid (bad_true (HBD.out.2 (.inr (.inr (.inl g1)))))
          clear g1
          go_wp2_with (go_at_call 42; (refine (refFirst_is gen F HF.out hg _).mono ?_); (rintro e w3 ⟨rfl, rfl⟩))
          go_meet
          exact ⟨congrArg Value.bool HBT.out.symm, rfl⟩
      · have o1 : (at_ != F) = true := by simp; omega
        have o2 : (at_ != F + 1) = false := by simpa using h1
        have ho : Bm.one gen at_ := HONE.out.2 (by omega)
        clear h1
        by_cases g1 : p.kind = 5
        · have k1 : (p.kind != 5) = false := by simpa using g1
          by_cases g2 : p.gen = gen
          · have k2 : ((p.gen : Int) != (gen : Int)) = false := by simp; omega
            by_cases g3 : p.body.length < 8
            · have HBT := Lib.hid (bad_true (HBD.out.2 (.inr (.inr (.inr (.inr (.inl g3)))))))
              clear g1 g2
              go_wp2_with (go_at_call 42; (refine (refFirst_is gen F HF.out hg _).mono ?_); (rintro e w3 ⟨rfl, rfl⟩))
              go_meet
              exact ⟨congrArg Value.bool HBT.out.symm, rfl⟩
            by_cases g4 : blocks < 8
            · have HBT := Lib.hid (bad_true (HBD.out.2 (.inr (.inr (.inr (.inr (.inr (.inl g4))))))))
              clear g1 g2
              go_wp2_with (go_at_call 42; (refine (refFirst_is gen F HF.out hg _).mono ?_); (rintro e w3 ⟨rfl, rfl⟩))
              go_meet
              exact ⟨congrArg Value.bool HBT.out.symm, rfl⟩
            by_cases g5 : 256 < blocks
            · have HBT := Lib.hid (bad_true (HBD.out.2 (.inr (.inr (.inr (.inr (.inr (.inr g5))))))))
              clear g1 g2
              go_wp2_with (go_at_call 42; (refine (refFirst_is gen F HF.out hg _).mono ?_); (rintro e w3 ⟨rfl, rfl⟩))
              go_meet
              exact ⟨congrArg Value.bool HBT.out.symm, rfl⟩
            have HBT := Lib.hid (bad_false (fun h => by rcases HBD.out.1 h with h | h | h | h | h | h | h; exact h rfl; exact h ho; exact h g1; exact h g2; exact g3 h; exact g4 h; exact g5 h))
            clear g1 g2
            go_wp2_with (go_at_call 42; (refine (refFirst_is gen F HF.out hg _).mono ?_); (rintro e w3 ⟨rfl, rfl⟩))
            go_meet
            exact ⟨congrArg Value.bool (by rw [HBT.out]; simp; omega), rfl⟩
          · have k2 : ((p.gen : Int) != (gen : Int)) = true := by simp; omega
            have HBT := Lib.hid (bad_true (HBD.out.2 (.inr (.inr (.inr (.inl g2))))))
            clear g1 g2
            go_wp2_with (go_at_call 42; (refine (refFirst_is gen F HF.out hg _).mono ?_); (rintro e w3 ⟨rfl, rfl⟩))
            go_meet
            exact ⟨congrArg Value.bool HBT.out.symm, rfl⟩
        · have k1 : (p.kind != 5) = true := by simpa using g1
          have HBT := Lib.hid (bad_true (HBD.out.2 (.inr (.inr (.inl g1)))))
          clear g1
          go_wp2_with (go_at_call 42; (refine (refFirst_is gen F HF.out hg _).mono ?_); (rintro e w3 ⟨rfl, rfl⟩))
          go_meet
          exact ⟨congrArg Value.bool HBT.out.symm, rfl⟩
      · have HBT := Lib.hid (bad_true (k := 0) (p := p) (blocks := blocks) (HBD.out.2 (.inr (.inl (fun h => by rcases HONE.out.1 h with h | h; exact h1 h; exact h2 h)))))
        have o1 : (at_ != F) = true := by simpa using h1
        have o2 : (at_ != F + 1) = true := by simpa using h2
        clear h1 h2
        go_wp2_with (go_at_call 42; (refine (refFirst_is gen F HF.out hg _).mono ?_); (rintro e w3 ⟨rfl, rfl⟩))
        go_meet
        exact ⟨congrArg Value.bool HBT.out.symm, rfl⟩
    · have hk0 : ((k : Int) != 0) = true := by simpa using c1
      have HBT := Lib.hid (bad_true (HBD.out.2 (.inl c1)))
      clear c1
      go_wp2_with (go_at_call 42; (refine (refFirst_is gen F HF.out hg _).mono ?_); (rintro e w3 ⟨rfl, rfl⟩))
      go_meet
      exact ⟨congrArg Value.bool HBT.out.symm, rfl⟩
  case rest =>
    obtain ⟨rfl, rfl⟩ := hcut
    by_cases hbad : Bm.bad k p at_ gen blocks
    · have HT := Lib.hid (refMap_none (HBN.out hbad))
      rw [bad_true hbad]
      clear hbad
      obtain ⟨m0, m1, m2⟩ := HXW.out.three
      have f0 := HXW.out.free 0 _ rfl
      have f1 := HXW.out.free 1 _ rfl
      have f2 := HXW.out.free 2 _ rfl
      go_wp2_with fail
      have hb := HBW.out
      refine bodyPost_ret (v := .tuple #[mapV Bm.zero (.slice none 0 0), .bool false]) (by simp [results, Tryd.results45, go_sem, m0, m1, m2, mapV, Bm.zero]) rfl ?_
      rw [HT.out]
      exact ⟨⟨none, 0, rfl, OwnI.nil _ _⟩, by go_grown⟩
    · rw [bad_false hbad]
      obtain ⟨hk0, hat, hk5, hgn, hl8, hb8, hb256⟩ : k = 0 ∧ Bm.one gen at_ ∧ p.kind = 5 ∧ p.gen = gen ∧ 8 ≤ p.body.length ∧ 8 ≤ blocks ∧ blocks ≤ 256 := by
        have := HBD.out
        refine ⟨?_, ?_, ?_, ?_, ?_, ?_, ?_⟩
        all_goals false_or_by_contra
        · exact hbad (this.2 (.inl (by assumption)))
        · exact hbad (this.2 (.inr (.inl (by assumption))))
        · exact hbad (this.2 (.inr (.inr (.inl (by assumption)))))
        · exact hbad (this.2 (.inr (.inr (.inr (.inl (by assumption))))))
        · exact hbad (this.2 (.inr (.inr (.inr (.inr (.inl (by omega)))))))
        · exact hbad (this.2 (.inr (.inr (.inr (.inr (.inr (.inl (by omega))))))))
        · exact hbad (this.2 (.inr (.inr (.inr (.inr (.inr (.inr (by omega))))))))
      obtain ⟨hop, hid, hpr⟩ : Pg.opens l ∧ (Pg.readL l).id = at_ ∧ p = Pg.readL l := by
        have h := HR.out
        rcases openAt_ways l at_ with ⟨k', X', hk, hr', hno⟩ | ⟨g1, g2, hr'⟩
        · rw [h] at hr'; injection hr' with e1 e2; injection e2 with e2 e3; exact absurd (e2.symm.trans hk0) hk
        · rw [h] at hr'; injection hr' with e1 e2; exact ⟨g1, g2, e1⟩
      obtain ⟨N, rfl⟩ : ∃ N : Nat, blocks = N := ⟨blocks.toNat, by omega⟩
      have hmap : Bm.mapOf l gen (N : Int) = ⟨gen, N, Bm.usedOf p.body N⟩ := by unfold Bm.mapOf; rw [hpr]; rfl
      have hopen : Bm.bmOpen l at_ gen (N : Int) = if decide (Bm.Right ⟨gen, N, Bm.usedOf p.body N⟩) = true ∧ (Bm.sealB ⟨gen, N, Bm.usedOf p.body N⟩ at_ l.length == l) = true then some ⟨gen, N, Bm.usedOf p.body N⟩ else none := by
        unfold Bm.bmOpen
        by_cases h1 : Bm.Right ⟨gen, N, Bm.usedOf p.body N⟩
        · by_cases h2 : Bm.sealB ⟨gen, N, Bm.usedOf p.body N⟩ at_ l.length = l
          · rw [if_pos (show Bm.bmOk l at_ gen (N : Int) from ⟨hop, hid, hat, hpr ▸ hk5, hpr ▸ hgn, by rw [hmap]; exact h1, by rw [hmap]; exact h2⟩), hmap, if_pos ⟨by simpa using h1, by simpa using h2⟩]
          · rw [if_neg (fun h : Bm.bmOk l at_ gen (N : Int) => h2 (by have := h.2.2.2.2.2.2; rwa [hmap] at this)), if_neg (fun h => h2 (by simpa using h.2))]
        · rw [if_neg (fun h : Bm.bmOk l at_ gen (N : Int) => h1 (by have := h.2.2.2.2.2.1; rwa [hmap] at this)), if_neg (fun h => h1 (by simpa using h.1))]
      have HOPEN := Lib.hid hopen
      have HSZ := Lib.hid (show 256 ≤ l.length ∧ l.length ≤ 1024 by have := (Pg.check_ok hop.1).1; omega)
      have HATB := Lib.hid (one_lt _ _ hat)
      have HPL := Lib.hid (show p.body.length ≤ 2000 by rw [hpr]; have := Pg.check_ok hop.1; have h2 := (Pg.check_ok hop.1).1; omega)
      subst hk0
      clear hop hid hpr hmap hopen hat hk5 hgn hbad
      rcases HOW.out.row with ⟨-, hnil⟩ | ⟨g, cap, e2, hg1, hg2, hg3, hg4⟩
      · rw [hnil] at hl8; simp at hl8
      obtain ⟨rfl, rfl⟩ : a2 = some ⟨g, 0, none⟩ ∧ c2 = cap := by injection e2 with e1 e2 e3; exact ⟨e1, e3⟩
      have hN8 : 8 ≤ N := by omega
      have hN256 : N ≤ 256 := by omega
      clear e2 hb8 hb256
      go_upto_region 5 with fail
      refine wp_name fun V hV => ?_
      have HXV := Lib.hid (show BoxAt V w.heap.size [.int .u64 0, .int .i64 0, .slice none 0 0] by rw [hV]; exact HXW.out.alloc _)
      have HPV := Lib.hid (show BoxAt V w1.heap.size [.int .i64 p.kind, .int .i64 p.id, .int .u64 (p.gen : Int), .slice (some ⟨g, 0, none⟩) p.body.length c2] by rw [hV]; exact HPW.out.alloc _)
      have HMV := Lib.hid (show BoxAt V wc.heap.size [.int .u64 (gen : Int), .int .i64 (N : Int), .slice none 0 0] by rw [hV]; exact BoxAt.new wc [_, _, _] _)
      have HBV := Lib.hid (show Below w.heap.size w V by rw [hV]; exact HBW.out.alloc HBW.out.size _)
      have HBO := Lib.hid (show BytesAt V (.slice (some ⟨g, 0, none⟩) p.body.length c2) p.body by rw [hV]; exact (HOW.out.alloc _).bytes)
      have hsV := HMV.out.lt
      clear hV q0 q1 q2 q3
      go_wp2_with fail
      go_loopw [14] (fun i wr => ∃ k : Nat, k ≤ N ∧ i = .int .i64 k ∧ ∃ v, BoxAt wr w.heap.size [.int .u64 0, .int .i64 0, .slice none 0 0] ∧ BoxAt wr w1.heap.size [.int .i64 p.kind, .int .i64 p.id, .int .u64 (p.gen : Int), .slice (some ⟨g, 0, none⟩) p.body.length c2] ∧ BoxAt wr wc.heap.size [.int .u64 (gen : Int), .int .i64 (N : Int), v] ∧ OwnI wr (wc.heap.size + 1) v (Bm.usedOf p.body k) ∧ BytesAt wr (.slice (some ⟨g, 0, none⟩) p.body.length c2) p.body ∧ Below w.heap.size w wr) (fun i _ => N - (intOf i).toNat)
      case atStart => exact ⟨0, by omega, rfl, _, HXV.out, HPV.out, HMV.out, OwnI.nil _ _, HBO.out, HBV.out⟩
      case round =>
        obtain ⟨k, hk, rfl, v, hx1, hx2, hx3, ho, hbo, hbr⟩ := hrel
        have Y1 := Lib.hid hx1
        have Y2 := Lib.hid hx2
        have Y3 := Lib.hid hx3
        have HO := Lib.hid ho
        have HBR := Lib.hid hbr
        have HBY := Lib.hid hbo
        have hsr := hx3.lt
        have HLE := Lib.hid (Bm.usedOf_le p.body k)
        have HSU := Lib.hid (Bm.usedOf_succ p.body k)
        obtain ⟨q0, q1, q2, q3⟩ := hx2.four
        obtain ⟨y0, y1, y2⟩ := hx3.three
        clear hx1 hx2 hx3 ho hbr hbo
        by_cases hlt : k < N
        · have hlt1 : (k : Int) < (N : Int) := by omega
          have hct : (c2 = 8 ∧ BytesAt wr (.slice (some ⟨g, 0, none⟩) (p.body.length - 8) 0) (p.body.drop 8)) ∨ (¬ c2 = 8 ∧ BytesAt wr (.slice (some ⟨g, 8, none⟩) (p.body.length - 8) (c2 - 8)) (p.body.drop 8)) := by
            by_cases hc : c2 = 8
            · left
              refine ⟨hc, some ⟨g, 0, none⟩, 0, by simp, by simp; omega, Nat.zero_le _, .inl ?_⟩
              exact List.drop_of_length_le (by omega)
            · right
              have := HBY.out.cut 8 (p.body.length - 8) (by omega)
              rw [List.take_of_length_le (by simp)] at this
              exact ⟨hc, this⟩
          have HBT := Lib.hid (bitOf_drop p.body k)
          have hsg : wc.heap.size ≠ w.heap.size := by have := HXW.out.lt; omega
          have hsp : wc.heap.size ≠ w1.heap.size := by have := HPW.out.lt; omega
          have hlw2 : w.heap.size < wc.heap.size := by have := HXW.out.lt; omega
          have hgc : g < wc.heap.size := hg2
          have HGC := Lib.hid hgc
          cases hbit : Bm.bitAt p.body k with
          | true =>
            have HBB := Lib.hid (HBT.out.trans hbit)
            have HU := Lib.hid (show Bm.usedOf p.body (k + 1) = Bm.usedOf p.body k ++ [(k : Int)] by rw [HSU.out, hbit]; rfl)
            have hll : (Bm.usedOf p.body k).length + [(k : Int)].length ≤ 17592186044416 := by have := HLE.out; simp; omega
            clear hbit
            rcases hct with ⟨hc8, hct⟩ | ⟨hc8, hct⟩
            all_goals
              have HCT := Lib.hid hct
              clear hct
              go_wp2_with (first
                | (go_at_call 87; (refine (refBit_any _ _ k true HBB.out _ HCT.out (by omega)).mono ?_); (rintro e w3 ⟨rfl, rfl⟩))
                | (at_builtin; refine wpList_append_ints rfl (.tmp 77) (.tmp 79) rfl (wc.heap.size + 1) _ (Bm.usedOf p.body k) rfl (HO.out.alloc _) _ [(k : Int)] rfl (one_int _ _ _) hll (by simp; omega) ?_))
              intro v2 w2 hown hgrow hnn
              obtain ⟨a3, c3, rfl, -, -⟩ := hown.slice
              obtain ⟨n3, hn3⟩ : ∃ n, (Bm.usedOf p.body k ++ [(k : Int)]).length = n := ⟨_, rfl⟩
              rw [hn3] at hown hnn ⊢
              have hbr2 : Below w.heap.size w w2 := (HBR.out.alloc HBR.out.size _).grown hgrow (by have := HBR.out.size; simp; omega) (fun j hj => by have := (HO.out.lt j hj).1; omega)
              have Y1b := (Y1.out.alloc (.cells #[.int .i64 (k : Int)] 3)).grownR hgrow (fun e => by have := (HO.out.lt _ e).1; omega)
              have Y2b := (Y2.out.alloc (.cells #[.int .i64 (k : Int)] 3)).grownR hgrow (fun e => by have := (HO.out.lt _ e).1; have := HPW.out.lt; omega)
              have Y3b := (Y3.out.alloc (.cells #[.int .i64 (k : Int)] 3)).grownR hgrow (fun e => by have := (HO.out.lt _ e).1; omega)
              have YBb : BytesAt w2 (.slice (some ⟨g, 0, none⟩) p.body.length c2) p.body := bytes_grownR (HBY.out.alloc (.cells #[.int .i64 (k : Int)] 3)) hgrow (fun e => by have := (HO.out.lt _ e).1; have := HGC.out; omega)
              have x2 := Y3b.at 2 _ rfl
              have x2f := Y3b.free 2 _ rfl
              have Z1 := Lib.hid (Y1b.set hsg 2 (.slice a3 n3 c3))
              have Z2 := Lib.hid (Y2b.set hsp 2 (.slice a3 n3 c3))
              have Z3 := Lib.hid (Y3b.put 2 (.slice a3 n3 c3))
              have ZO := Lib.hid (hown.keep (grownBy_set (World.grownBy.refl w2 (some wc.heap.size)) 2 (.slice a3 n3 c3)) (by omega))
              have ZY := Lib.hid (bytes_grownR YBb (grownBy_set (World.grownBy.refl w2 (some wc.heap.size)) 2 (.slice a3 n3 c3)) (fun e => by have := HGC.out; simp at e; omega))
              have ZB := Lib.hid (hbr2.setCell (p := ⟨wc.heap.size, 2, none⟩) (by show w.heap.size ≤ wc.heap.size; omega) (.slice a3 n3 c3))
              clear hgrow hown hnn hbr2 Y1b Y2b Y3b YBb
              go_wp2_with fail
              go_roundw
              case rel => (repeat apply Exists.intro); exact ⟨⟨k + 1, by omega, by go_num, _, Z1.out, Z2.out, Z3.out, by rw [HU.out]; exact ZO.out, ZY.out, ZB.out⟩, rfl⟩
              case measure => simp [intOf]; omega
          | false =>
            have HBB := Lib.hid (HBT.out.trans hbit)
            have HU := Lib.hid (show Bm.usedOf p.body (k + 1) = Bm.usedOf p.body k by rw [HSU.out, hbit]; simp)
            clear hbit
            rcases hct with ⟨hc8, hct⟩ | ⟨hc8, hct⟩
            all_goals
              have HCT := Lib.hid hct
              clear hct
              go_wp2_with (go_at_call 87; (refine (refBit_any _ _ k false HBB.out _ HCT.out (by omega)).mono ?_); (rintro e w3 ⟨rfl, rfl⟩))
              go_roundw
              case rel => (repeat apply Exists.intro); exact ⟨⟨k + 1, by omega, by go_num, v, Y1.out, Y2.out, Y3.out, by rw [HU.out]; exact HO.out, HBY.out, HBR.out⟩, rfl⟩
              case measure => simp [intOf]; omega
        · have hkk : k = N := by omega
          subst hkk
          obtain ⟨m0, m1, m2⟩ := Y1.out.three
          have f0 := Y1.out.free 0 _ rfl
          have f1 := Y1.out.free 1 _ rfl
          have f2 := Y1.out.free 2 _ rfl
          obtain ⟨av, cv, rfl, -, -⟩ := HO.out.slice
          have hsg : wc.heap.size ≠ w.heap.size := by have := HXW.out.lt; omega
          have hlx : w.heap.size < wc.heap.size := by have := HXW.out.lt; omega
          obtain ⟨uu, huu⟩ : ∃ uu, Bm.usedOf p.body k = uu := ⟨_, rfl⟩
          have hopen2 := HOPEN.out
          rw [huu] at hopen2 HO y2 Y3
          have HOPEN2 := Lib.hid hopen2
          clear hopen2 huu
          obtain ⟨hz1, hz2⟩ := HSZ.out
          have hiu := HO.out.ints
          have HIU := Lib.hid hiu
          clear hiu
          cases hR : decide (Bm.Right ⟨gen, k, uu⟩) with
          | false =>
            have HT := Lib.hid (refMap_none (show Bm.bmOpen l at_ gen (k : Int) = none by rw [HOPEN2.out, hR]; simp))
            have HRR := Lib.hid hR
            clear hR
            go_wp2_with (go_at_call 28; (refine (refMapRight_is ⟨gen, k, uu⟩ _ HRR.out av cv _ HIU.out).mono ?_); (rintro e w4 ⟨rfl, hb4⟩); (have HB4 := Lib.hid (below_step HBR.out hb4)); (have HX4 := Lib.hid (Y1.out.below hb4)); (obtain ⟨s0, s1, s2⟩ := HX4.out.three); (have sf0 := HX4.out.free 0 _ rfl); (have sf1 := HX4.out.free 1 _ rfl); (have sf2 := HX4.out.free 2 _ rfl); (clear hb4))
            have hb := HB4.out
            refine bodyPost_ret (v := .tuple #[mapV Bm.zero (.slice none 0 0), .bool false]) (by simp [results, Tryd.results45, go_sem, s0, s1, s2, mapV, Bm.zero]) rfl ?_
            rw [HT.out]
            exact ⟨⟨none, 0, rfl, OwnI.nil _ _⟩, by go_grown⟩
          | true =>
            have HRR := Lib.hid hR
            have hR2 : Bm.Right ⟨gen, k, uu⟩ := by simpa using hR
            have HR2 := Lib.hid hR2
            obtain ⟨L, hL⟩ : ∃ L, Bm.sealB ⟨gen, k, uu⟩ at_ l.length = L := ⟨_, rfl⟩
            have HLL := Lib.hid hL
            cases hE : (L == l) with
            | false =>
              have HT := Lib.hid (refMap_none (show Bm.bmOpen l at_ gen (k : Int) = none by rw [HOPEN2.out, hL, hE]; simp))
              have HE := Lib.hid hE
              clear hR hR2 hL hE
              go_wp2_with (first
                | (go_at_call 28; (refine (refMapRight_is ⟨gen, k, uu⟩ _ HRR.out av cv _ HIU.out).mono ?_); (rintro e w4 ⟨rfl, hb4⟩); (have HB4 := Lib.hid (below_step HBR.out hb4)); (have HX4 := Lib.hid (Y1.out.below hb4)); (have HM4 := Lib.hid (Y3.out.below hb4)); (have HI4 := Lib.hid (HIU.out.below hb4)); (obtain ⟨z0, z1, z2⟩ := HM4.out.three); (clear hb4))
                | (go_at_call 43; (refine (refMapSeal_ok ⟨gen, k, uu⟩ at_ l.length L HLL.out av cv _ HI4.out hg HR2.out HATB.out ⟨hz1, hz2⟩).mono ?_); (rintro e w5 ⟨⟨a5, c5, rfl, ho5⟩, hb5⟩); (have HB5 := Lib.hid (below_step HB4.out hb5)); (have HX5 := Lib.hid (HX4.out.below hb5)); (have HO5 := Lib.hid ho5.bytes); (clear hb5 ho5))
                | (go_at_call 19; (refine (same_is _ _ L l _ HE.out _ HO5.out (HB.out.below HB5.out)).mono ?_); (rintro e w6 ⟨rfl, hb6⟩); (have HB6 := Lib.hid (below_step HB5.out hb6)); (have HX6 := Lib.hid (HX5.out.below hb6)); (obtain ⟨s0, s1, s2⟩ := HX6.out.three); (have sf0 := HX6.out.free 0 _ rfl); (have sf1 := HX6.out.free 1 _ rfl); (have sf2 := HX6.out.free 2 _ rfl); (clear hb6)))
              have hb := HB6.out
              refine bodyPost_ret (v := .tuple #[mapV Bm.zero (.slice none 0 0), .bool false]) (by simp [results, Tryd.results45, go_sem, s0, s1, s2, mapV, Bm.zero]) rfl ?_
              rw [HT.out]
              exact ⟨⟨none, 0, rfl, OwnI.nil _ _⟩, by go_grown⟩
            | true =>
              have HT := Lib.hid (refMap_some (show Bm.bmOpen l at_ gen (k : Int) = some ⟨gen, k, uu⟩ by rw [HOPEN2.out, hL, hR, hE]; simp))
              have HE := Lib.hid hE
              clear hR hR2 hL hE
              go_wp2_with (first
                | (go_at_call 28; (refine (refMapRight_is ⟨gen, k, uu⟩ _ HRR.out av cv _ HIU.out).mono ?_); (rintro e w4 ⟨rfl, hb4⟩); (have HB4 := Lib.hid (below_step HBR.out hb4)); (have HX4 := Lib.hid (Y1.out.below hb4)); (have HM4 := Lib.hid (Y3.out.below hb4)); (have HI4 := Lib.hid (HIU.out.below hb4)); (have HO4 := Lib.hid (HO.out.below hb4 (Nat.le_refl _))); (obtain ⟨z0, z1, z2⟩ := HM4.out.three); (clear hb4))
                | (go_at_call 43; (refine (refMapSeal_ok ⟨gen, k, uu⟩ at_ l.length L HLL.out av cv _ HI4.out hg HR2.out HATB.out ⟨hz1, hz2⟩).mono ?_); (rintro e w5 ⟨⟨a5, c5, rfl, ho5⟩, hb5⟩); (have HB5 := Lib.hid (below_step HB4.out hb5)); (have HX5 := Lib.hid (HX4.out.below hb5)); (have HM5 := Lib.hid (HM4.out.below hb5)); (have HQ5 := Lib.hid (HO4.out.below hb5 (Nat.le_refl _))); (have HO5 := Lib.hid ho5.bytes); (clear hb5 ho5))
                | (go_at_call 19; (refine (same_is _ _ L l _ HE.out _ HO5.out (HB.out.below HB5.out)).mono ?_); (rintro e w6 ⟨rfl, hb6⟩); (have HB6 := Lib.hid (below_step HB5.out hb6)); (have HX6 := Lib.hid (HX5.out.below hb6)); (have HM6 := Lib.hid (HM5.out.below hb6)); (have HQ6 := Lib.hid (HQ5.out.below hb6 (Nat.le_refl _))); (obtain ⟨s0, s1, s2⟩ := HX6.out.three); (obtain ⟨t0, t1, t2⟩ := HM6.out.three); (have sf0 := HX6.out.free 0 _ rfl); (have sf1 := HX6.out.free 1 _ rfl); (have sf2 := HX6.out.free 2 _ rfl); (clear hb6)))
              have hb := HB6.out
              refine bodyPost_ret (v := .tuple #[mapV ⟨gen, k, uu⟩ (.slice av uu.length cv), .bool true]) (by simp [results, Tryd.results45, go_sem, s0, s1, s2, mapV]) rfl ?_
              rw [HT.out]
              exact ⟨⟨av, cv, rfl, (((HQ6.out.keep (grownBy_set (World.grownBy.refl w6 (some w.heap.size)) 0 _) (by omega)).keep (grownBy_set (World.grownBy.refl _ (some w.heap.size)) 1 _) (by omega)).keep (grownBy_set (World.grownBy.refl _ (some w.heap.size)) 2 _) (by omega)).mono (by omega)⟩, by go_grown⟩
end Go.Proofs.YtlobelfnjabajaaDoor
