/- bitmaps: Open (printed by gen_bmopen.py) -/
import Derived.Test.YtlobelfnjabajaaDoorBitmap4
namespace Go.Proofs.YtlobelfnjabajaaDoor
open Go.RowKit
set_option linter.unusedVariables false
set_option linter.unusedSimpArgs false

theorem openAt_is (a : Option Addr) (c : Nat) (l : List UInt8) (id : Int) (p : Pg.Page) (k : Nat) (X : Int) (hr : Pg.openAtL l id = (p, k, X)) (w : World) (A : Nat → Addr) {S : Nat → Prop} [Has S 1] [Has S 2] [Has S 5] (hs : SentsOn S w A) (hb : BytesAt w (.slice a l.length c) l) :
    Calls Tryd.prog 84 #[.slice a l.length c, .int .i64 id] w fun e w' => (∃ a1 c1 ev lp, e = .returned (.tuple #[.agg #[.int .i64 p.kind, .int .i64 p.id, .int .u64 (p.gen : Int), .slice a1 p.body.length c1], ev]) ∧ Own w' w.heap.size (.slice a1 p.body.length c1) p.body ∧ ErrIs w' A w.heap.size lp k ev ∧ pageOf lp = X ∧ lp.length ≤ 2) ∧ Below w.heap.size w w' := by
  have := openAt_any a c l id w A hs hb
  rw [hr] at this
  exact this
theorem mapSaid_is (p : Pg.Page) (m : Bm.Map) (hm : Bm.said p = m) (a0 : Option Addr) (c0 : Nat) (w : World) (A : Nat → Addr) {S : Nat → Prop} [Has S 1] [Has S 2] (hs : SentsOn S w A) (hb : BytesAt w (.slice a0 p.body.length c0) p.body) (hl : p.body.length ≤ 140737488351232) :
    Calls Tryd.prog 85 #[.agg #[.int .i64 p.kind, .int .i64 p.id, .int .u64 (p.gen : Int), .slice a0 p.body.length c0]] w fun e w' => (∃ a c, e = .returned (.agg #[.int .u64 (m.gen : Int), .int .i64 m.blocks, .slice a m.used.length c]) ∧ OwnI w' w.heap.size (.slice a m.used.length c) m.used) ∧ Below w.heap.size w w' := by
  subst hm; exact mapSaid_any p a0 c0 w A hs hb hl
theorem openAt_ways (l : List UInt8) (at_ : Int) : (∃ k X, k ≠ 0 ∧ Pg.openAtL l at_ = (Pg.zero, k, X) ∧ ¬ (Pg.opens l ∧ (Pg.readL l).id = at_)) ∨ (Pg.opens l ∧ (Pg.readL l).id = at_ ∧ Pg.openAtL l at_ = (Pg.readL l, 0, -1)) := by
  by_cases h : Pg.opens l
  · by_cases hid : (Pg.readL l).id = at_
    · right
      refine ⟨h, hid, ?_⟩
      unfold Pg.openAtL
      rw [if_neg (by rw [(Pg.open_code l).2 h]; decide), Pg.open_page h, if_neg (by simpa using hid)]
    · left
      refine ⟨5, max at_ (-1), by decide, ?_, fun h2 => hid h2.2⟩
      unfold Pg.openAtL
      rw [if_neg (by rw [(Pg.open_code l).2 h]; decide), Pg.open_page h, if_pos hid]
  · left
    refine ⟨(Pg.openL l).2.1, (Pg.openL l).2.2, fun h0 => h ((Pg.open_code l).1 h0), ?_, fun h2 => h h2.1⟩
    unfold Pg.openAtL
    rw [if_pos (fun h0 => h ((Pg.open_code l).1 h0)), ← Pg.open_not h]
theorem bm_none {l : List UInt8} {at_ : Int} {gen : Nat} {blocks : Int} (h : ¬ Bm.bmOk l at_ gen blocks) : Bm.bmOpen l at_ gen blocks = none := by
  unfold Bm.bmOpen; rw [if_neg h]
theorem mapOpen_ways (l : List UInt8) (at_ : Int) (gen : Nat) (blocks : Int) :
    (∃ k X, k ≠ 0 ∧ Pg.openAtL l at_ = (Pg.zero, k, X) ∧ Bm.bmOpen l at_ gen blocks = none) ∨
    (Pg.openAtL l at_ = (Pg.readL l, 0, -1) ∧ Pg.opens l ∧ (Pg.readL l).id = at_ ∧
      ((decide (Bm.one gen at_) = false ∧ Bm.bmOpen l at_ gen blocks = none) ∨
      (decide (Bm.one gen at_) = true ∧ ((Pg.readL l).kind == 5) = false ∧ Bm.bmOpen l at_ gen blocks = none) ∨
      (decide (Bm.one gen at_) = true ∧ ((Pg.readL l).kind == 5) = true ∧ (((Pg.readL l).gen : Int) == (gen : Int)) = false ∧ Bm.bmOpen l at_ gen blocks = none) ∨
      (decide (Bm.one gen at_) = true ∧ ((Pg.readL l).kind == 5) = true ∧ (((Pg.readL l).gen : Int) == (gen : Int)) = true ∧ ∃ m, Bm.said (Pg.readL l) = m ∧ m.gen < 18446744073709551616 ∧
        ((Bm.sealC m at_ (l.length : Nat) ≠ 0 ∧ Bm.bmOpen l at_ gen blocks = none) ∨
        (Bm.sealC m at_ (l.length : Nat) = 0 ∧ (m.blocks == blocks) = false ∧ Bm.bmOpen l at_ gen blocks = none) ∨
        (Bm.sealC m at_ (l.length : Nat) = 0 ∧ (m.blocks == blocks) = true ∧ (Bm.sealB m at_ l.length == l) = false ∧ Bm.bmOpen l at_ gen blocks = none) ∨
        (Bm.sealC m at_ (l.length : Nat) = 0 ∧ (m.blocks == blocks) = true ∧ (Bm.sealB m at_ l.length == l) = true ∧ Bm.bmOpen l at_ gen blocks = some m))))) := by
  rcases openAt_ways l at_ with ⟨k, X, hk, hr, hno⟩ | ⟨ho, hid, hr⟩
  · exact .inl ⟨k, X, hk, hr, bm_none (fun h => hno ⟨h.1, h.2.1⟩)⟩
  refine .inr ⟨hr, ho, hid, ?_⟩
  by_cases h1 : Bm.one gen at_
  · have h1' : decide (Bm.one gen at_) = true := by simpa using h1
    by_cases h2 : (Pg.readL l).kind = 5
    · have h2' : ((Pg.readL l).kind == 5) = true := by simpa using h2
      by_cases h3 : (Pg.readL l).gen = gen
      · have h3' : (((Pg.readL l).gen : Int) == (gen : Int)) = true := by simp [h3]
        refine .inr (.inr (.inr ⟨h1', h2', h3', Bm.said (Pg.readL l), rfl, ?_, ?_⟩))
        · have := Pg.read_gen l
          unfold Bm.said
          split
          · exact this
          · show (0 : Nat) < _; decide
        · have hi := Bm.said_iff (blocks := blocks) ho hid h1 h2 h3
          by_cases c1 : Bm.sealC (Bm.said (Pg.readL l)) at_ (l.length : Nat) = 0
          · by_cases c2 : (Bm.said (Pg.readL l)).blocks = blocks
            · by_cases c3 : Bm.sealB (Bm.said (Pg.readL l)) at_ l.length = l
              · have hok := hi.1 ⟨c1, c2, c3⟩
                refine .inr (.inr (.inr ⟨c1, by simpa using c2, by simpa using c3, ?_⟩))
                unfold Bm.bmOpen
                rw [if_pos hok]
                congr 1
                have hr2 := (sealC_ok c1).1
                unfold Bm.said Bm.mapOf at *
                split
                · rename_i hx
                  rw [if_pos hx] at c2
                  simp only at c2
                  rw [h3, ← c2]
                  simp
                · rename_i hx
                  rw [if_neg hx] at hr2
                  exact absurd hr2.1 (by simp [Bm.zero])
              · exact .inr (.inr (.inl ⟨c1, by simpa using c2, by simpa using c3, bm_none (fun h => c3 (hi.2 h).2.2)⟩))
            · exact .inr (.inl ⟨c1, by simpa using c2, bm_none (fun h => c2 (hi.2 h).2.1)⟩)
          · exact .inl ⟨c1, bm_none (fun h => c1 (hi.2 h).1)⟩
      · exact .inr (.inr (.inl ⟨h1', h2', by simp; omega, bm_none (fun h => h3 h.2.2.2.2.1)⟩))
    · exact .inr (.inl ⟨h1', by simpa using h2, bm_none (fun h => h2 h.2.2.2.1)⟩)
  · exact .inl ⟨by simpa using h1, bm_none (fun h => h1 h.2.2.1)⟩
/-- what Open of a map tells: the map, the code, the page that is named -/
def mapOpenT (l : List UInt8) (at_ : Int) (gen : Nat) (blocks : Int) : Bm.Map × Nat × Int :=
  match Bm.bmOpen l at_ gen blocks with | some m => (m, 0, -1) | none => (Bm.zero, 5, max at_ (-1))
def MapErr (w : World) (A : Nat → Addr) (r : Bm.Map × Nat × Int) (e : Ending) (w' : World) : Prop :=
  ∃ a c ev lp, e = .returned (.tuple #[mapV r.1 (.slice a r.1.used.length c), ev]) ∧ OwnI w' w.heap.size (.slice a r.1.used.length c) r.1.used ∧ ErrIs w' A w.heap.size lp r.2.1 ev ∧ pageOf lp = r.2.2 ∧ lp.length ≤ 1
theorem mapOpen_none {l : List UInt8} {at_ : Int} {gen : Nat} {blocks : Int} (h : Bm.bmOpen l at_ gen blocks = none) : mapOpenT l at_ gen blocks = (Bm.zero, 5, max at_ (-1)) := by unfold mapOpenT; rw [h]
theorem mapOpen_some {l : List UInt8} {at_ : Int} {gen : Nat} {blocks : Int} {m : Bm.Map} (h : Bm.bmOpen l at_ gen blocks = some m) : mapOpenT l at_ gen blocks = (m, 0, -1) := by unfold mapOpenT; rw [h]
theorem max_max (x : Int) : max (max x (-1)) (-1) = max x (-1) := by omega
theorem faultAt_is (op : ByteArray) (x M : Int) (hM : max x (-1) = M) (E : Value) (w : World) (A : Nat → Addr) (B : Nat) (h : ErrIs w A B [] 5 E) (hB : B ≤ w.heap.size) :
    Calls Tryd.prog 83 #[.string op, .int .i64 x, E] w fun e w' => IsFault A B [M] 5 e w' ∧ Below w.heap.size w w' := by
  subst hM
  exact faultAt_any op x [] 5 E w A B h (by decide) hB
def zeroMV : List Value := [.int .u64 0, .int .i64 0, .slice none 0 0]

set_option maxRecDepth 100000 in
set_option maxHeartbeats 8000000 in
theorem mapOpen_any (a : Option Addr) (c : Nat) (l : List UInt8) (at_ : Int) (gen : Nat) (blocks : Int) (w : World) (A : Nat → Addr) {S : Nat → Prop} [Has S 1] [Has S 2] [Has S 5] (hs : SentsOn S w A) (hb : BytesAt w (.slice a l.length c) l) (hg : gen < 18446744073709551616) :
    Calls Tryd.prog 44 #[.slice a l.length c, .int .i64 at_, .int .u64 (gen : Int), .int .i64 blocks] w fun e w' => MapErr w A (mapOpenT l at_ gen blocks) e w' ∧ Below w.heap.size w w' := by
  have HS := Lib.hid hs
  have HB := Lib.hid hb
  have g5 : w.cell? ⟨2, 0, none⟩ = some (.iface 189 (.pointer (some (A 5)))) := hs.cell 5 (by decide) (by decide)
  have l5 := World.block_lt_of_cell? w _ g5
  simp only at l5
  have hcm : l.length ≤ 140737488351232 → True := fun _ => trivial
  clear hs hb hcm
  rcases mapOpen_ways l at_ gen blocks with ⟨k, X, hk, hr, hno⟩ | ⟨hr, hop, hid, hrest⟩
  · have HT := Lib.hid (mapOpen_none hno)
    have HR := Lib.hid hr
    have HK := Lib.hid hk
    clear hno hr hk
    go_enter Tryd.func44, Tryd.ntmps44
    go_upto_region 1 with fail
    go_cut [10] (fun v wx => ∃ t1 x1 lp1, v = .iface t1 x1 ∧ pageOf lp1 = max at_ (-1) ∧ lp1.length ≤ 1 ∧ BoxAt wx w.heap.size [.int .u64 0, .int .i64 0, .slice none 0 0] ∧ ErrIs wx A (w.heap.size + 1) lp1 5 (.iface t1 x1) ∧ Below w.heap.size w wx)
    case first =>
      go_wp2_with (go_at_call 83; (refine (faultAt_is _ _ _ rfl _ _ A _ (sent_err 5 (by decide) (by decide)) (Nat.le_refl _)).mono ?_); (rintro e w1 ⟨⟨v1, rfl, hv1⟩, hb1⟩); (obtain ⟨t1, x1, rfl⟩ := hv1.iface (by decide)))
      all_goals
        go_meet
        refine ⟨_, _, _, rfl, ?_, ?_, (BoxAt.new w [.int .u64 0, .int .i64 0, .slice none 0 0] 50).below hb1, hv1.mono (by simp), (show Below w.heap.size w _ by go_grown).trans (hb1.mono (by simp))⟩
        · rw [pageOf_max]; omega
        · simp
    case rest =>
    obtain ⟨t1, x1, lp1, rfl, hpo, hlp1, hx1, hv1, hb1⟩ := hcut
    have HX1 := Lib.hid hx1
    have HV1 := Lib.hid hv1
    have HB1 := Lib.hid hb1
    have HPO := Lib.hid hpo
    have HLP := Lib.hid hlp1
    clear hx1 hv1 hb1 hpo hlp1
    go_upto_region 3 with (go_at_call 84; (refine (openAt_is a c l at_ Pg.zero k X HR.out _ A (HS.out.below HB1.out) (HB.out.below HB1.out)).mono ?_); (rintro e w2 ⟨⟨a2, c2, ev, lp, rfl, ho2, hE2, hp2, hl2⟩, hb2⟩); (obtain ⟨t2, x2, rfl⟩ := hE2.iface HK.out); (have HX2 := Lib.hid (HX1.out.below hb2)); (have HV2 := Lib.hid (HV1.out.below hb2)); (have HB2 := Lib.hid (below_step HB1.out hb2)); (have HO2 := Lib.hid ho2); (clear ho2 hE2 hp2 hl2 hb2))
    · refine wp_name fun W hW => ?_
      have HXW := Lib.hid (show BoxAt W w.heap.size [.int .u64 0, .int .i64 0, .slice none 0 0] by rw [hW]; exact HX2.out.alloc _)
      have HVW := Lib.hid (show ErrIs W A (w.heap.size + 1) lp1 5 (.iface t1 x1) by rw [hW]; exact HV2.out.below ((Below.refl _ _).alloc (Nat.le_refl _) _))
      have HBW := Lib.hid (show Below w.heap.size w W by rw [hW]; exact HB2.out.alloc HB2.out.size _)
      have HPW := Lib.hid (show BoxAt W w2.heap.size [.int .i64 Pg.zero.kind, .int .i64 Pg.zero.id, .int .u64 (Pg.zero.gen : Int), .slice a2 Pg.zero.body.length c2] by rw [hW]; exact BoxAt.new w2 [_, _, _, _] _)
      have HOW := Lib.hid (show Own W wc.heap.size (.slice a2 Pg.zero.body.length c2) Pg.zero.body by rw [hW]; exact HO2.out.alloc _)
      have hlw := HX2.out.lt
      have hn1 : ¬ w2.heap.size = w.heap.size := Nat.ne_of_gt hlw
      have hn2 : ¬ w.heap.size = w2.heap.size := Nat.ne_of_lt hlw
      clear hW
      obtain ⟨q0, q1, q2, q3⟩ := HPW.out.four
      obtain ⟨m0, m1, m2⟩ := HXW.out.three
      have f0 := HXW.out.free 0 _ rfl
      have f1 := HXW.out.free 1 _ rfl
      have f2 := HXW.out.free 2 _ rfl
      go_wp2_with fail
      have hb := HBW.out
      refine bodyPost_ret (v := .tuple #[mapV Bm.zero (.slice none 0 0), .iface t1 x1]) (by simp [results, Tryd.results44, go_sem, m0, m1, m2, mapV, Bm.zero]) rfl ?_
      rw [HT.out]
      exact ⟨⟨none, 0, _, _, rfl, OwnI.nil _ _, ((((HVW.out.setLow _ (Nat.lt_succ_self _)).setLow _ (Nat.lt_succ_self _)).setLow _ (Nat.lt_succ_self _))).mono (Nat.le_succ _), HPO.out, HLP.out⟩, by go_grown⟩
  · have hpl : (Pg.readL l).body.length ≤ 140737488351232 := by have := Pg.check_ok hop.1; omega
    clear hop hid
    generalize hp : Pg.readL l = p at *
    have HR := Lib.hid hr
    clear hr hp
    rcases hrest with ⟨h1, hno⟩ | ⟨h1, h2, hno⟩ | ⟨h1, h2, h3, hno⟩ | ⟨h1, h2, h3, m, hm, hmg, hrest⟩
    · have HT := Lib.hid (mapOpen_none hno)
      have HONE := Lib.hid h1
      clear hno h1
      go_enter Tryd.func44, Tryd.ntmps44
      go_upto_region 1 with fail
      go_cut [10] (fun v wx => ∃ t1 x1 lp1, v = .iface t1 x1 ∧ pageOf lp1 = max at_ (-1) ∧ lp1.length ≤ 1 ∧ BoxAt wx w.heap.size [.int .u64 0, .int .i64 0, .slice none 0 0] ∧ ErrIs wx A (w.heap.size + 1) lp1 5 (.iface t1 x1) ∧ Below w.heap.size w wx)
      case first =>
        go_wp2_with (go_at_call 83; (refine (faultAt_is _ _ _ rfl _ _ A _ (sent_err 5 (by decide) (by decide)) (Nat.le_refl _)).mono ?_); (rintro e w1 ⟨⟨v1, rfl, hv1⟩, hb1⟩); (obtain ⟨t1, x1, rfl⟩ := hv1.iface (by decide)))
        all_goals
          go_meet
          refine ⟨_, _, _, rfl, ?_, ?_, (BoxAt.new w [.int .u64 0, .int .i64 0, .slice none 0 0] 50).below hb1, hv1.mono (by simp), (show Below w.heap.size w _ by go_grown).trans (hb1.mono (by simp))⟩
          · rw [pageOf_max]; omega
          · simp
      case rest =>
      obtain ⟨t1, x1, lp1, rfl, hpo, hlp1, hx1, hv1, hb1⟩ := hcut
      have HX1 := Lib.hid hx1
      have HV1 := Lib.hid hv1
      have HB1 := Lib.hid hb1
      have HPO := Lib.hid hpo
      have HLP := Lib.hid hlp1
      clear hx1 hv1 hb1 hpo hlp1
      go_upto_region 3 with (go_at_call 84; (refine (openAt_is a c l at_ p 0 (-1) HR.out _ A (HS.out.below HB1.out) (HB.out.below HB1.out)).mono ?_); (rintro e w2 ⟨⟨a2, c2, ev, lp, rfl, ho2, hE2, hp2, hl2⟩, hb2⟩); (obtain ⟨rfl, rfl⟩ := hE2.isNil); (have HX2 := Lib.hid (HX1.out.below hb2)); (have HV2 := Lib.hid (HV1.out.below hb2)); (have HB2 := Lib.hid (below_step HB1.out hb2)); (have HO2 := Lib.hid ho2); (clear ho2 hE2 hp2 hl2 hb2))
      refine wp_name fun W hW => ?_
      have HXW := Lib.hid (show BoxAt W w.heap.size [.int .u64 0, .int .i64 0, .slice none 0 0] by rw [hW]; exact HX2.out.alloc _)
      have HVW := Lib.hid (show ErrIs W A (w.heap.size + 1) lp1 5 (.iface t1 x1) by rw [hW]; exact HV2.out.below ((Below.refl _ _).alloc (Nat.le_refl _) _))
      have HBW := Lib.hid (show Below w.heap.size w W by rw [hW]; exact HB2.out.alloc HB2.out.size _)
      have HPW := Lib.hid (show BoxAt W w2.heap.size [.int .i64 p.kind, .int .i64 p.id, .int .u64 (p.gen : Int), .slice a2 p.body.length c2] by rw [hW]; exact BoxAt.new w2 [_, _, _, _] _)
      have HOW := Lib.hid (show Own W wc.heap.size (.slice a2 p.body.length c2) p.body by rw [hW]; exact HO2.out.alloc _)
      have hlw := HX2.out.lt
      have hn1 : ¬ w2.heap.size = w.heap.size := Nat.ne_of_gt hlw
      have hn2 : ¬ w.heap.size = w2.heap.size := Nat.ne_of_lt hlw
      clear hW
      obtain ⟨q0, q1, q2, q3⟩ := HPW.out.four
      obtain ⟨m0, m1, m2⟩ := HXW.out.three
      have f0 := HXW.out.free 0 _ rfl
      have f1 := HXW.out.free 1 _ rfl
      have f2 := HXW.out.free 2 _ rfl
      go_wp2_with (go_at_call 71; (refine (one_is gen at_ _ HONE.out hg _).mono ?_); (rintro e w3 ⟨rfl, hb3⟩); (have HX3 := Lib.hid (HXW.out.below hb3)); (have HP3 := Lib.hid (HPW.out.below hb3)); (have HV3 := Lib.hid (HVW.out.below hb3)); (have HB3 := Lib.hid (below_step HBW.out hb3)); (have HO3 := Lib.hid (HOW.out.below hb3 (Nat.le_refl _))); (obtain ⟨q0, q1, q2, q3⟩ := HP3.out.four); (obtain ⟨m0, m1, m2⟩ := HX3.out.three); (have f0 := HX3.out.free 0 _ rfl); (have f1 := HX3.out.free 1 _ rfl); (have f2 := HX3.out.free 2 _ rfl); (clear hb3))
      have hb := HB3.out
      refine bodyPost_ret (v := .tuple #[mapV Bm.zero (.slice none 0 0), .iface t1 x1]) (by simp [results, Tryd.results44, go_sem, m0, m1, m2, mapV, Bm.zero]) rfl ?_
      rw [HT.out]
      exact ⟨⟨none, 0, _, _, rfl, OwnI.nil _ _, ((((HV3.out.setLow _ (Nat.lt_succ_self _)).setLow _ (Nat.lt_succ_self _)).setLow _ (Nat.lt_succ_self _))).mono (Nat.le_succ _), HPO.out, HLP.out⟩, by go_grown⟩
    · have HT := Lib.hid (mapOpen_none hno)
      have HONE := Lib.hid h1
      clear hno h1
      have h2n : (p.kind != 5) = true := by rw [bne, h2]; rfl
      go_enter Tryd.func44, Tryd.ntmps44
      go_upto_region 1 with fail
      go_cut [10] (fun v wx => ∃ t1 x1 lp1, v = .iface t1 x1 ∧ pageOf lp1 = max at_ (-1) ∧ lp1.length ≤ 1 ∧ BoxAt wx w.heap.size [.int .u64 0, .int .i64 0, .slice none 0 0] ∧ ErrIs wx A (w.heap.size + 1) lp1 5 (.iface t1 x1) ∧ Below w.heap.size w wx)
      case first =>
        go_wp2_with (go_at_call 83; (refine (faultAt_is _ _ _ rfl _ _ A _ (sent_err 5 (by decide) (by decide)) (Nat.le_refl _)).mono ?_); (rintro e w1 ⟨⟨v1, rfl, hv1⟩, hb1⟩); (obtain ⟨t1, x1, rfl⟩ := hv1.iface (by decide)))
        all_goals
          go_meet
          refine ⟨_, _, _, rfl, ?_, ?_, (BoxAt.new w [.int .u64 0, .int .i64 0, .slice none 0 0] 50).below hb1, hv1.mono (by simp), (show Below w.heap.size w _ by go_grown).trans (hb1.mono (by simp))⟩
          · rw [pageOf_max]; omega
          · simp
      case rest =>
      obtain ⟨t1, x1, lp1, rfl, hpo, hlp1, hx1, hv1, hb1⟩ := hcut
      have HX1 := Lib.hid hx1
      have HV1 := Lib.hid hv1
      have HB1 := Lib.hid hb1
      have HPO := Lib.hid hpo
      have HLP := Lib.hid hlp1
      clear hx1 hv1 hb1 hpo hlp1
      go_upto_region 3 with (go_at_call 84; (refine (openAt_is a c l at_ p 0 (-1) HR.out _ A (HS.out.below HB1.out) (HB.out.below HB1.out)).mono ?_); (rintro e w2 ⟨⟨a2, c2, ev, lp, rfl, ho2, hE2, hp2, hl2⟩, hb2⟩); (obtain ⟨rfl, rfl⟩ := hE2.isNil); (have HX2 := Lib.hid (HX1.out.below hb2)); (have HV2 := Lib.hid (HV1.out.below hb2)); (have HB2 := Lib.hid (below_step HB1.out hb2)); (have HO2 := Lib.hid ho2); (clear ho2 hE2 hp2 hl2 hb2))
      refine wp_name fun W hW => ?_
      have HXW := Lib.hid (show BoxAt W w.heap.size [.int .u64 0, .int .i64 0, .slice none 0 0] by rw [hW]; exact HX2.out.alloc _)
      have HVW := Lib.hid (show ErrIs W A (w.heap.size + 1) lp1 5 (.iface t1 x1) by rw [hW]; exact HV2.out.below ((Below.refl _ _).alloc (Nat.le_refl _) _))
      have HBW := Lib.hid (show Below w.heap.size w W by rw [hW]; exact HB2.out.alloc HB2.out.size _)
      have HPW := Lib.hid (show BoxAt W w2.heap.size [.int .i64 p.kind, .int .i64 p.id, .int .u64 (p.gen : Int), .slice a2 p.body.length c2] by rw [hW]; exact BoxAt.new w2 [_, _, _, _] _)
      have HOW := Lib.hid (show Own W wc.heap.size (.slice a2 p.body.length c2) p.body by rw [hW]; exact HO2.out.alloc _)
      have hlw := HX2.out.lt
      have hn1 : ¬ w2.heap.size = w.heap.size := Nat.ne_of_gt hlw
      have hn2 : ¬ w.heap.size = w2.heap.size := Nat.ne_of_lt hlw
      clear hW
      obtain ⟨q0, q1, q2, q3⟩ := HPW.out.four
      obtain ⟨m0, m1, m2⟩ := HXW.out.three
      have f0 := HXW.out.free 0 _ rfl
      have f1 := HXW.out.free 1 _ rfl
      have f2 := HXW.out.free 2 _ rfl
      go_wp2_with (go_at_call 71; (refine (one_is gen at_ _ HONE.out hg _).mono ?_); (rintro e w3 ⟨rfl, hb3⟩); (have HX3 := Lib.hid (HXW.out.below hb3)); (have HP3 := Lib.hid (HPW.out.below hb3)); (have HV3 := Lib.hid (HVW.out.below hb3)); (have HB3 := Lib.hid (below_step HBW.out hb3)); (have HO3 := Lib.hid (HOW.out.below hb3 (Nat.le_refl _))); (obtain ⟨q0, q1, q2, q3⟩ := HP3.out.four); (obtain ⟨m0, m1, m2⟩ := HX3.out.three); (have f0 := HX3.out.free 0 _ rfl); (have f1 := HX3.out.free 1 _ rfl); (have f2 := HX3.out.free 2 _ rfl); (clear hb3))
      have hb := HB3.out
      refine bodyPost_ret (v := .tuple #[mapV Bm.zero (.slice none 0 0), .iface t1 x1]) (by simp [results, Tryd.results44, go_sem, m0, m1, m2, mapV, Bm.zero]) rfl ?_
      rw [HT.out]
      exact ⟨⟨none, 0, _, _, rfl, OwnI.nil _ _, ((((HV3.out.setLow _ (Nat.lt_succ_self _)).setLow _ (Nat.lt_succ_self _)).setLow _ (Nat.lt_succ_self _))).mono (Nat.le_succ _), HPO.out, HLP.out⟩, by go_grown⟩
    · have HT := Lib.hid (mapOpen_none hno)
      have HONE := Lib.hid h1
      clear hno h1
      have h2n : (p.kind != 5) = false := by rw [bne, h2]; rfl
      have h3n : ((p.gen : Int) != (gen : Int)) = true := by rw [bne, h3]; rfl
      go_enter Tryd.func44, Tryd.ntmps44
      go_upto_region 1 with fail
      go_cut [10] (fun v wx => ∃ t1 x1 lp1, v = .iface t1 x1 ∧ pageOf lp1 = max at_ (-1) ∧ lp1.length ≤ 1 ∧ BoxAt wx w.heap.size [.int .u64 0, .int .i64 0, .slice none 0 0] ∧ ErrIs wx A (w.heap.size + 1) lp1 5 (.iface t1 x1) ∧ Below w.heap.size w wx)
      case first =>
        go_wp2_with (go_at_call 83; (refine (faultAt_is _ _ _ rfl _ _ A _ (sent_err 5 (by decide) (by decide)) (Nat.le_refl _)).mono ?_); (rintro e w1 ⟨⟨v1, rfl, hv1⟩, hb1⟩); (obtain ⟨t1, x1, rfl⟩ := hv1.iface (by decide)))
        all_goals
          go_meet
          refine ⟨_, _, _, rfl, ?_, ?_, (BoxAt.new w [.int .u64 0, .int .i64 0, .slice none 0 0] 50).below hb1, hv1.mono (by simp), (show Below w.heap.size w _ by go_grown).trans (hb1.mono (by simp))⟩
          · rw [pageOf_max]; omega
          · simp
      case rest =>
      obtain ⟨t1, x1, lp1, rfl, hpo, hlp1, hx1, hv1, hb1⟩ := hcut
      have HX1 := Lib.hid hx1
      have HV1 := Lib.hid hv1
      have HB1 := Lib.hid hb1
      have HPO := Lib.hid hpo
      have HLP := Lib.hid hlp1
      clear hx1 hv1 hb1 hpo hlp1
      go_upto_region 3 with (go_at_call 84; (refine (openAt_is a c l at_ p 0 (-1) HR.out _ A (HS.out.below HB1.out) (HB.out.below HB1.out)).mono ?_); (rintro e w2 ⟨⟨a2, c2, ev, lp, rfl, ho2, hE2, hp2, hl2⟩, hb2⟩); (obtain ⟨rfl, rfl⟩ := hE2.isNil); (have HX2 := Lib.hid (HX1.out.below hb2)); (have HV2 := Lib.hid (HV1.out.below hb2)); (have HB2 := Lib.hid (below_step HB1.out hb2)); (have HO2 := Lib.hid ho2); (clear ho2 hE2 hp2 hl2 hb2))
      refine wp_name fun W hW => ?_
      have HXW := Lib.hid (show BoxAt W w.heap.size [.int .u64 0, .int .i64 0, .slice none 0 0] by rw [hW]; exact HX2.out.alloc _)
      have HVW := Lib.hid (show ErrIs W A (w.heap.size + 1) lp1 5 (.iface t1 x1) by rw [hW]; exact HV2.out.below ((Below.refl _ _).alloc (Nat.le_refl _) _))
      have HBW := Lib.hid (show Below w.heap.size w W by rw [hW]; exact HB2.out.alloc HB2.out.size _)
      have HPW := Lib.hid (show BoxAt W w2.heap.size [.int .i64 p.kind, .int .i64 p.id, .int .u64 (p.gen : Int), .slice a2 p.body.length c2] by rw [hW]; exact BoxAt.new w2 [_, _, _, _] _)
      have HOW := Lib.hid (show Own W wc.heap.size (.slice a2 p.body.length c2) p.body by rw [hW]; exact HO2.out.alloc _)
      have hlw := HX2.out.lt
      have hn1 : ¬ w2.heap.size = w.heap.size := Nat.ne_of_gt hlw
      have hn2 : ¬ w.heap.size = w2.heap.size := Nat.ne_of_lt hlw
      clear hW
      obtain ⟨q0, q1, q2, q3⟩ := HPW.out.four
      obtain ⟨m0, m1, m2⟩ := HXW.out.three
      have f0 := HXW.out.free 0 _ rfl
      have f1 := HXW.out.free 1 _ rfl
      have f2 := HXW.out.free 2 _ rfl
      go_wp2_with (go_at_call 71; (refine (one_is gen at_ _ HONE.out hg _).mono ?_); (rintro e w3 ⟨rfl, hb3⟩); (have HX3 := Lib.hid (HXW.out.below hb3)); (have HP3 := Lib.hid (HPW.out.below hb3)); (have HV3 := Lib.hid (HVW.out.below hb3)); (have HB3 := Lib.hid (below_step HBW.out hb3)); (have HO3 := Lib.hid (HOW.out.below hb3 (Nat.le_refl _))); (obtain ⟨q0, q1, q2, q3⟩ := HP3.out.four); (obtain ⟨m0, m1, m2⟩ := HX3.out.three); (have f0 := HX3.out.free 0 _ rfl); (have f1 := HX3.out.free 1 _ rfl); (have f2 := HX3.out.free 2 _ rfl); (clear hb3))
      have hb := HB3.out
      refine bodyPost_ret (v := .tuple #[mapV Bm.zero (.slice none 0 0), .iface t1 x1]) (by simp [results, Tryd.results44, go_sem, m0, m1, m2, mapV, Bm.zero]) rfl ?_
      rw [HT.out]
      exact ⟨⟨none, 0, _, _, rfl, OwnI.nil _ _, ((((HV3.out.setLow _ (Nat.lt_succ_self _)).setLow _ (Nat.lt_succ_self _)).setLow _ (Nat.lt_succ_self _))).mono (Nat.le_succ _), HPO.out, HLP.out⟩, by go_grown⟩
    · rcases hrest with ⟨g1, hno⟩ | ⟨g1, g2, hno⟩ | ⟨g1, g2, g3, hno⟩ | ⟨g1, g2, g3, hno⟩
      · have HONE := Lib.hid h1
        have h2n : (p.kind != 5) = false := by rw [bne, h2]; rfl
        have h3n : ((p.gen : Int) != (gen : Int)) = false := by rw [bne, h3]; rfl
        have HM := Lib.hid hm
        have HSC := Lib.hid g1
        have HT := Lib.hid (mapOpen_none hno)
        clear hno h1 hm g1
        go_enter Tryd.func44, Tryd.ntmps44
        go_upto_region 1 with fail
        go_cut [10] (fun v wx => ∃ t1 x1 lp1, v = .iface t1 x1 ∧ pageOf lp1 = max at_ (-1) ∧ lp1.length ≤ 1 ∧ BoxAt wx w.heap.size [.int .u64 0, .int .i64 0, .slice none 0 0] ∧ ErrIs wx A (w.heap.size + 1) lp1 5 (.iface t1 x1) ∧ Below w.heap.size w wx)
        case first =>
          go_wp2_with (go_at_call 83; (refine (faultAt_is _ _ _ rfl _ _ A _ (sent_err 5 (by decide) (by decide)) (Nat.le_refl _)).mono ?_); (rintro e w1 ⟨⟨v1, rfl, hv1⟩, hb1⟩); (obtain ⟨t1, x1, rfl⟩ := hv1.iface (by decide)))
          all_goals
            go_meet
            refine ⟨_, _, _, rfl, ?_, ?_, (BoxAt.new w [.int .u64 0, .int .i64 0, .slice none 0 0] 50).below hb1, hv1.mono (by simp), (show Below w.heap.size w _ by go_grown).trans (hb1.mono (by simp))⟩
            · rw [pageOf_max]; omega
            · simp
        case rest =>
        obtain ⟨t1, x1, lp1, rfl, hpo, hlp1, hx1, hv1, hb1⟩ := hcut
        have HX1 := Lib.hid hx1
        have HV1 := Lib.hid hv1
        have HB1 := Lib.hid hb1
        have HPO := Lib.hid hpo
        have HLP := Lib.hid hlp1
        clear hx1 hv1 hb1 hpo hlp1
        go_upto_region 3 with (go_at_call 84; (refine (openAt_is a c l at_ p 0 (-1) HR.out _ A (HS.out.below HB1.out) (HB.out.below HB1.out)).mono ?_); (rintro e w2 ⟨⟨a2, c2, ev, lp, rfl, ho2, hE2, hp2, hl2⟩, hb2⟩); (obtain ⟨rfl, rfl⟩ := hE2.isNil); (have HX2 := Lib.hid (HX1.out.below hb2)); (have HV2 := Lib.hid (HV1.out.below hb2)); (have HB2 := Lib.hid (below_step HB1.out hb2)); (have HO2 := Lib.hid ho2); (clear ho2 hE2 hp2 hl2 hb2))
        refine wp_name fun W hW => ?_
        have HXW := Lib.hid (show BoxAt W w.heap.size [.int .u64 0, .int .i64 0, .slice none 0 0] by rw [hW]; exact HX2.out.alloc _)
        have HVW := Lib.hid (show ErrIs W A (w.heap.size + 1) lp1 5 (.iface t1 x1) by rw [hW]; exact HV2.out.below ((Below.refl _ _).alloc (Nat.le_refl _) _))
        have HBW := Lib.hid (show Below w.heap.size w W by rw [hW]; exact HB2.out.alloc HB2.out.size _)
        have HPW := Lib.hid (show BoxAt W w2.heap.size [.int .i64 p.kind, .int .i64 p.id, .int .u64 (p.gen : Int), .slice a2 p.body.length c2] by rw [hW]; exact BoxAt.new w2 [_, _, _, _] _)
        have HOW := Lib.hid (show Own W wc.heap.size (.slice a2 p.body.length c2) p.body by rw [hW]; exact HO2.out.alloc _)
        have hlw := HX2.out.lt
        have hn1 : ¬ w2.heap.size = w.heap.size := Nat.ne_of_gt hlw
        have hn2 : ¬ w.heap.size = w2.heap.size := Nat.ne_of_lt hlw
        clear hW
        obtain ⟨q0, q1, q2, q3⟩ := HPW.out.four
        obtain ⟨m0, m1, m2⟩ := HXW.out.three
        have f0 := HXW.out.free 0 _ rfl
        have f1 := HXW.out.free 1 _ rfl
        have f2 := HXW.out.free 2 _ rfl
        go_wp2_with (first
          | (go_at_call 71; (refine (one_is gen at_ _ HONE.out hg _).mono ?_); (rintro e w3 ⟨rfl, hb3⟩); (have HX3 := Lib.hid (HXW.out.below hb3)); (have HP3 := Lib.hid (HPW.out.below hb3)); (have HV3 := Lib.hid (HVW.out.below hb3)); (have HB3 := Lib.hid (below_step HBW.out hb3)); (have HO3 := Lib.hid (HOW.out.below hb3 (Nat.le_refl _))); (obtain ⟨q0, q1, q2, q3⟩ := HP3.out.four); (obtain ⟨m0, m1, m2⟩ := HX3.out.three); (have f0 := HX3.out.free 0 _ rfl); (have f1 := HX3.out.free 1 _ rfl); (have f2 := HX3.out.free 2 _ rfl); (clear hb3))
          | (go_at_call 85; (refine (mapSaid_is p m HM.out a2 c2 _ A (HS.out.below HB3.out) HO3.out.bytes hpl).mono ?_); (rintro e w4 ⟨⟨a4, c4, rfl, ho4⟩, hb4⟩); (have HX4 := Lib.hid (HX3.out.below hb4)); (have HV4 := Lib.hid (HV3.out.below hb4)); (have HB4 := Lib.hid (below_step HB3.out hb4)); (have HO4 := Lib.hid ho4); (clear ho4 hb4))
          | (go_at_call 32; (refine (mapSeal_bad m a4 c4 at_ (l.length : Nat) _ A (HS.out.below (HB4.out.alloc HB4.out.size _)) (HO4.out.alloc _).ints hmg HSC.out).mono ?_); (rintro e w5 ⟨⟨t5, x5, l5e, rfl, hE5⟩, hb5⟩); (have HX5 := Lib.hid ((HX4.out.alloc _).below hb5)); (have HY5 := Lib.hid ((BoxAt.new w4 [.int .u64 (m.gen : Int), .int .i64 m.blocks, .slice a4 m.used.length c4] 50).below hb5)); (have HV5 := Lib.hid ((HV4.out.below ((Below.refl _ _).alloc (Nat.le_refl _) _)).below hb5)); (have HB5 := Lib.hid (below_step (HB4.out.alloc HB4.out.size _) hb5)); (have HM5 := Lib.hid ((HO4.out.alloc (.cells #[.int .u64 (m.gen : Int), .int .i64 m.blocks, .slice a4 m.used.length c4] 50)).below hb5 (Nat.le_refl _))); (obtain ⟨m0, m1, m2⟩ := HX5.out.three); (obtain ⟨y0, y1, y2⟩ := HY5.out.three); (have f0 := HX5.out.free 0 _ rfl); (have f1 := HX5.out.free 1 _ rfl); (have f2 := HX5.out.free 2 _ rfl); (have hlw4 := HX4.out.lt); (have hn3 : ¬ w4.heap.size = w.heap.size := Nat.ne_of_gt hlw4); (have hn4 : ¬ w.heap.size = w4.heap.size := Nat.ne_of_lt hlw4); (clear hb5 hE5)))
        have hb := HB5.out
        refine bodyPost_ret (v := .tuple #[mapV Bm.zero (.slice none 0 0), .iface t1 x1]) (by simp [results, Tryd.results44, go_sem, m0, m1, m2, mapV, Bm.zero]) rfl ?_
        rw [HT.out]
        exact ⟨⟨none, 0, _, _, rfl, OwnI.nil _ _, ((((HV5.out.setLow _ (Nat.lt_succ_self _)).setLow _ (Nat.lt_succ_self _)).setLow _ (Nat.lt_succ_self _))).mono (Nat.le_succ _), HPO.out, HLP.out⟩, by go_grown⟩
      · have HONE := Lib.hid h1
        have h2n : (p.kind != 5) = false := by rw [bne, h2]; rfl
        have h3n : ((p.gen : Int) != (gen : Int)) = false := by rw [bne, h3]; rfl
        have HM := Lib.hid hm
        have HSC := Lib.hid g1
        have HT := Lib.hid (mapOpen_none hno)
        obtain ⟨L, hL⟩ : ∃ L, Bm.sealB m at_ l.length = L := ⟨_, rfl⟩
        have g2n : (m.blocks != blocks) = true := by rw [bne, g2]; rfl
        have HL := Lib.hid hL
        clear hL
        clear hno h1 hm g1
        go_enter Tryd.func44, Tryd.ntmps44
        go_upto_region 1 with fail
        go_cut [10] (fun v wx => ∃ t1 x1 lp1, v = .iface t1 x1 ∧ pageOf lp1 = max at_ (-1) ∧ lp1.length ≤ 1 ∧ BoxAt wx w.heap.size [.int .u64 0, .int .i64 0, .slice none 0 0] ∧ ErrIs wx A (w.heap.size + 1) lp1 5 (.iface t1 x1) ∧ Below w.heap.size w wx)
        case first =>
          go_wp2_with (go_at_call 83; (refine (faultAt_is _ _ _ rfl _ _ A _ (sent_err 5 (by decide) (by decide)) (Nat.le_refl _)).mono ?_); (rintro e w1 ⟨⟨v1, rfl, hv1⟩, hb1⟩); (obtain ⟨t1, x1, rfl⟩ := hv1.iface (by decide)))
          all_goals
            go_meet
            refine ⟨_, _, _, rfl, ?_, ?_, (BoxAt.new w [.int .u64 0, .int .i64 0, .slice none 0 0] 50).below hb1, hv1.mono (by simp), (show Below w.heap.size w _ by go_grown).trans (hb1.mono (by simp))⟩
            · rw [pageOf_max]; omega
            · simp
        case rest =>
        obtain ⟨t1, x1, lp1, rfl, hpo, hlp1, hx1, hv1, hb1⟩ := hcut
        have HX1 := Lib.hid hx1
        have HV1 := Lib.hid hv1
        have HB1 := Lib.hid hb1
        have HPO := Lib.hid hpo
        have HLP := Lib.hid hlp1
        clear hx1 hv1 hb1 hpo hlp1
        go_upto_region 3 with (go_at_call 84; (refine (openAt_is a c l at_ p 0 (-1) HR.out _ A (HS.out.below HB1.out) (HB.out.below HB1.out)).mono ?_); (rintro e w2 ⟨⟨a2, c2, ev, lp, rfl, ho2, hE2, hp2, hl2⟩, hb2⟩); (obtain ⟨rfl, rfl⟩ := hE2.isNil); (have HX2 := Lib.hid (HX1.out.below hb2)); (have HV2 := Lib.hid (HV1.out.below hb2)); (have HB2 := Lib.hid (below_step HB1.out hb2)); (have HO2 := Lib.hid ho2); (clear ho2 hE2 hp2 hl2 hb2))
        refine wp_name fun W hW => ?_
        have HXW := Lib.hid (show BoxAt W w.heap.size [.int .u64 0, .int .i64 0, .slice none 0 0] by rw [hW]; exact HX2.out.alloc _)
        have HVW := Lib.hid (show ErrIs W A (w.heap.size + 1) lp1 5 (.iface t1 x1) by rw [hW]; exact HV2.out.below ((Below.refl _ _).alloc (Nat.le_refl _) _))
        have HBW := Lib.hid (show Below w.heap.size w W by rw [hW]; exact HB2.out.alloc HB2.out.size _)
        have HPW := Lib.hid (show BoxAt W w2.heap.size [.int .i64 p.kind, .int .i64 p.id, .int .u64 (p.gen : Int), .slice a2 p.body.length c2] by rw [hW]; exact BoxAt.new w2 [_, _, _, _] _)
        have HOW := Lib.hid (show Own W wc.heap.size (.slice a2 p.body.length c2) p.body by rw [hW]; exact HO2.out.alloc _)
        have hlw := HX2.out.lt
        have hn1 : ¬ w2.heap.size = w.heap.size := Nat.ne_of_gt hlw
        have hn2 : ¬ w.heap.size = w2.heap.size := Nat.ne_of_lt hlw
        clear hW
        obtain ⟨q0, q1, q2, q3⟩ := HPW.out.four
        obtain ⟨m0, m1, m2⟩ := HXW.out.three
        have f0 := HXW.out.free 0 _ rfl
        have f1 := HXW.out.free 1 _ rfl
        have f2 := HXW.out.free 2 _ rfl
        go_wp2_with (first
          | (go_at_call 71; (refine (one_is gen at_ _ HONE.out hg _).mono ?_); (rintro e w3 ⟨rfl, hb3⟩); (have HX3 := Lib.hid (HXW.out.below hb3)); (have HP3 := Lib.hid (HPW.out.below hb3)); (have HV3 := Lib.hid (HVW.out.below hb3)); (have HB3 := Lib.hid (below_step HBW.out hb3)); (have HO3 := Lib.hid (HOW.out.below hb3 (Nat.le_refl _))); (obtain ⟨q0, q1, q2, q3⟩ := HP3.out.four); (obtain ⟨m0, m1, m2⟩ := HX3.out.three); (have f0 := HX3.out.free 0 _ rfl); (have f1 := HX3.out.free 1 _ rfl); (have f2 := HX3.out.free 2 _ rfl); (clear hb3))
          | (go_at_call 85; (refine (mapSaid_is p m HM.out a2 c2 _ A (HS.out.below HB3.out) HO3.out.bytes hpl).mono ?_); (rintro e w4 ⟨⟨a4, c4, rfl, ho4⟩, hb4⟩); (have HX4 := Lib.hid (HX3.out.below hb4)); (have HV4 := Lib.hid (HV3.out.below hb4)); (have HB4 := Lib.hid (below_step HB3.out hb4)); (have HO4 := Lib.hid ho4); (clear ho4 hb4))
          | (go_at_call 32; (refine (mapSeal_ok m at_ l.length L HL.out a4 c4 _ A (HS.out.below (HB4.out.alloc HB4.out.size _)) (HO4.out.alloc _).ints hmg HSC.out).mono ?_); (rintro e w5 ⟨⟨a5, c5, rfl, ho5⟩, hb5⟩); (have HO5 := Lib.hid ho5.bytes); (have HX5 := Lib.hid ((HX4.out.alloc _).below hb5)); (have HY5 := Lib.hid ((BoxAt.new w4 [.int .u64 (m.gen : Int), .int .i64 m.blocks, .slice a4 m.used.length c4] 50).below hb5)); (have HV5 := Lib.hid ((HV4.out.below ((Below.refl _ _).alloc (Nat.le_refl _) _)).below hb5)); (have HB5 := Lib.hid (below_step (HB4.out.alloc HB4.out.size _) hb5)); (have HM5 := Lib.hid ((HO4.out.alloc (.cells #[.int .u64 (m.gen : Int), .int .i64 m.blocks, .slice a4 m.used.length c4] 50)).below hb5 (Nat.le_refl _))); (obtain ⟨m0, m1, m2⟩ := HX5.out.three); (obtain ⟨y0, y1, y2⟩ := HY5.out.three); (have f0 := HX5.out.free 0 _ rfl); (have f1 := HX5.out.free 1 _ rfl); (have f2 := HX5.out.free 2 _ rfl); (have hlw4 := HX4.out.lt); (have hn3 : ¬ w4.heap.size = w.heap.size := Nat.ne_of_gt hlw4); (have hn4 : ¬ w.heap.size = w4.heap.size := Nat.ne_of_lt hlw4); (clear hb5 ho5)))
        have hb := HB5.out
        refine bodyPost_ret (v := .tuple #[mapV Bm.zero (.slice none 0 0), .iface t1 x1]) (by simp [results, Tryd.results44, go_sem, m0, m1, m2, mapV, Bm.zero]) rfl ?_
        rw [HT.out]
        exact ⟨⟨none, 0, _, _, rfl, OwnI.nil _ _, ((((HV5.out.setLow _ (Nat.lt_succ_self _)).setLow _ (Nat.lt_succ_self _)).setLow _ (Nat.lt_succ_self _))).mono (Nat.le_succ _), HPO.out, HLP.out⟩, by go_grown⟩
      · have HONE := Lib.hid h1
        have h2n : (p.kind != 5) = false := by rw [bne, h2]; rfl
        have h3n : ((p.gen : Int) != (gen : Int)) = false := by rw [bne, h3]; rfl
        have HM := Lib.hid hm
        have HSC := Lib.hid g1
        have HT := Lib.hid (mapOpen_none hno)
        obtain ⟨L, hL⟩ : ∃ L, Bm.sealB m at_ l.length = L := ⟨_, rfl⟩
        have g2n : (m.blocks != blocks) = false := by rw [bne, g2]; rfl
        rw [hL] at g3
        have HE := Lib.hid g3
        clear g3
        have HL := Lib.hid hL
        clear hL
        clear hno h1 hm g1
        go_enter Tryd.func44, Tryd.ntmps44
        go_upto_region 1 with fail
        go_cut [10] (fun v wx => ∃ t1 x1 lp1, v = .iface t1 x1 ∧ pageOf lp1 = max at_ (-1) ∧ lp1.length ≤ 1 ∧ BoxAt wx w.heap.size [.int .u64 0, .int .i64 0, .slice none 0 0] ∧ ErrIs wx A (w.heap.size + 1) lp1 5 (.iface t1 x1) ∧ Below w.heap.size w wx)
        case first =>
          go_wp2_with (go_at_call 83; (refine (faultAt_is _ _ _ rfl _ _ A _ (sent_err 5 (by decide) (by decide)) (Nat.le_refl _)).mono ?_); (rintro e w1 ⟨⟨v1, rfl, hv1⟩, hb1⟩); (obtain ⟨t1, x1, rfl⟩ := hv1.iface (by decide)))
          all_goals
            go_meet
            refine ⟨_, _, _, rfl, ?_, ?_, (BoxAt.new w [.int .u64 0, .int .i64 0, .slice none 0 0] 50).below hb1, hv1.mono (by simp), (show Below w.heap.size w _ by go_grown).trans (hb1.mono (by simp))⟩
            · rw [pageOf_max]; omega
            · simp
        case rest =>
        obtain ⟨t1, x1, lp1, rfl, hpo, hlp1, hx1, hv1, hb1⟩ := hcut
        have HX1 := Lib.hid hx1
        have HV1 := Lib.hid hv1
        have HB1 := Lib.hid hb1
        have HPO := Lib.hid hpo
        have HLP := Lib.hid hlp1
        clear hx1 hv1 hb1 hpo hlp1
        go_upto_region 3 with (go_at_call 84; (refine (openAt_is a c l at_ p 0 (-1) HR.out _ A (HS.out.below HB1.out) (HB.out.below HB1.out)).mono ?_); (rintro e w2 ⟨⟨a2, c2, ev, lp, rfl, ho2, hE2, hp2, hl2⟩, hb2⟩); (obtain ⟨rfl, rfl⟩ := hE2.isNil); (have HX2 := Lib.hid (HX1.out.below hb2)); (have HV2 := Lib.hid (HV1.out.below hb2)); (have HB2 := Lib.hid (below_step HB1.out hb2)); (have HO2 := Lib.hid ho2); (clear ho2 hE2 hp2 hl2 hb2))
        refine wp_name fun W hW => ?_
        have HXW := Lib.hid (show BoxAt W w.heap.size [.int .u64 0, .int .i64 0, .slice none 0 0] by rw [hW]; exact HX2.out.alloc _)
        have HVW := Lib.hid (show ErrIs W A (w.heap.size + 1) lp1 5 (.iface t1 x1) by rw [hW]; exact HV2.out.below ((Below.refl _ _).alloc (Nat.le_refl _) _))
        have HBW := Lib.hid (show Below w.heap.size w W by rw [hW]; exact HB2.out.alloc HB2.out.size _)
        have HPW := Lib.hid (show BoxAt W w2.heap.size [.int .i64 p.kind, .int .i64 p.id, .int .u64 (p.gen : Int), .slice a2 p.body.length c2] by rw [hW]; exact BoxAt.new w2 [_, _, _, _] _)
        have HOW := Lib.hid (show Own W wc.heap.size (.slice a2 p.body.length c2) p.body by rw [hW]; exact HO2.out.alloc _)
        have hlw := HX2.out.lt
        have hn1 : ¬ w2.heap.size = w.heap.size := Nat.ne_of_gt hlw
        have hn2 : ¬ w.heap.size = w2.heap.size := Nat.ne_of_lt hlw
        clear hW
        obtain ⟨q0, q1, q2, q3⟩ := HPW.out.four
        obtain ⟨m0, m1, m2⟩ := HXW.out.three
        have f0 := HXW.out.free 0 _ rfl
        have f1 := HXW.out.free 1 _ rfl
        have f2 := HXW.out.free 2 _ rfl
        go_wp2_with (first
          | (go_at_call 71; (refine (one_is gen at_ _ HONE.out hg _).mono ?_); (rintro e w3 ⟨rfl, hb3⟩); (have HX3 := Lib.hid (HXW.out.below hb3)); (have HP3 := Lib.hid (HPW.out.below hb3)); (have HV3 := Lib.hid (HVW.out.below hb3)); (have HB3 := Lib.hid (below_step HBW.out hb3)); (have HO3 := Lib.hid (HOW.out.below hb3 (Nat.le_refl _))); (obtain ⟨q0, q1, q2, q3⟩ := HP3.out.four); (obtain ⟨m0, m1, m2⟩ := HX3.out.three); (have f0 := HX3.out.free 0 _ rfl); (have f1 := HX3.out.free 1 _ rfl); (have f2 := HX3.out.free 2 _ rfl); (clear hb3))
          | (go_at_call 85; (refine (mapSaid_is p m HM.out a2 c2 _ A (HS.out.below HB3.out) HO3.out.bytes hpl).mono ?_); (rintro e w4 ⟨⟨a4, c4, rfl, ho4⟩, hb4⟩); (have HX4 := Lib.hid (HX3.out.below hb4)); (have HV4 := Lib.hid (HV3.out.below hb4)); (have HB4 := Lib.hid (below_step HB3.out hb4)); (have HO4 := Lib.hid ho4); (clear ho4 hb4))
          | (go_at_call 32; (refine (mapSeal_ok m at_ l.length L HL.out a4 c4 _ A (HS.out.below (HB4.out.alloc HB4.out.size _)) (HO4.out.alloc _).ints hmg HSC.out).mono ?_); (rintro e w5 ⟨⟨a5, c5, rfl, ho5⟩, hb5⟩); (have HO5 := Lib.hid ho5.bytes); (have HX5 := Lib.hid ((HX4.out.alloc _).below hb5)); (have HY5 := Lib.hid ((BoxAt.new w4 [.int .u64 (m.gen : Int), .int .i64 m.blocks, .slice a4 m.used.length c4] 50).below hb5)); (have HV5 := Lib.hid ((HV4.out.below ((Below.refl _ _).alloc (Nat.le_refl _) _)).below hb5)); (have HB5 := Lib.hid (below_step (HB4.out.alloc HB4.out.size _) hb5)); (have HM5 := Lib.hid ((HO4.out.alloc (.cells #[.int .u64 (m.gen : Int), .int .i64 m.blocks, .slice a4 m.used.length c4] 50)).below hb5 (Nat.le_refl _))); (obtain ⟨m0, m1, m2⟩ := HX5.out.three); (obtain ⟨y0, y1, y2⟩ := HY5.out.three); (have f0 := HX5.out.free 0 _ rfl); (have f1 := HX5.out.free 1 _ rfl); (have f2 := HX5.out.free 2 _ rfl); (have hlw4 := HX4.out.lt); (have hn3 : ¬ w4.heap.size = w.heap.size := Nat.ne_of_gt hlw4); (have hn4 : ¬ w.heap.size = w4.heap.size := Nat.ne_of_lt hlw4); (clear hb5 ho5))
          | (go_at_call 54; (refine (equal_is _ _ L l _ HE.out _ HO5.out (HB.out.below HB5.out)).mono ?_); (rintro e w6 ⟨rfl, hb6⟩); (have HX6 := Lib.hid (HX5.out.below hb6)); (have HV6 := Lib.hid (HV5.out.below hb6)); (have HB6 := Lib.hid (below_step HB5.out hb6)); (have HM6 := Lib.hid (HM5.out.below hb6 (Nat.le_refl _))); (obtain ⟨z0, z1, z2⟩ := (HY5.out.below hb6).three); (obtain ⟨s0, s1, s2⟩ := HX6.out.three); (have sf0 := HX6.out.free 0 _ rfl); (have sf1 := HX6.out.free 1 _ rfl); (have sf2 := HX6.out.free 2 _ rfl); (clear hb6)))
        have hb := HB6.out
        refine bodyPost_ret (v := .tuple #[mapV Bm.zero (.slice none 0 0), .iface t1 x1]) (by simp [results, Tryd.results44, go_sem, s0, s1, s2, mapV, Bm.zero]) rfl ?_
        rw [HT.out]
        exact ⟨⟨none, 0, _, _, rfl, OwnI.nil _ _, ((((HV6.out.setLow _ (Nat.lt_succ_self _)).setLow _ (Nat.lt_succ_self _)).setLow _ (Nat.lt_succ_self _))).mono (Nat.le_succ _), HPO.out, HLP.out⟩, by go_grown⟩
      · have HONE := Lib.hid h1
        have h2n : (p.kind != 5) = false := by rw [bne, h2]; rfl
        have h3n : ((p.gen : Int) != (gen : Int)) = false := by rw [bne, h3]; rfl
        have HM := Lib.hid hm
        have HSC := Lib.hid g1
        have HT := Lib.hid (mapOpen_some hno)
        obtain ⟨L, hL⟩ : ∃ L, Bm.sealB m at_ l.length = L := ⟨_, rfl⟩
        have g2n : (m.blocks != blocks) = false := by rw [bne, g2]; rfl
        rw [hL] at g3
        have HE := Lib.hid g3
        clear g3
        have HL := Lib.hid hL
        clear hL
        clear hno h1 hm g1
        go_enter Tryd.func44, Tryd.ntmps44
        go_upto_region 1 with fail
        go_cut [10] (fun v wx => ∃ t1 x1 lp1, v = .iface t1 x1 ∧ pageOf lp1 = max at_ (-1) ∧ lp1.length ≤ 1 ∧ BoxAt wx w.heap.size [.int .u64 0, .int .i64 0, .slice none 0 0] ∧ ErrIs wx A (w.heap.size + 1) lp1 5 (.iface t1 x1) ∧ Below w.heap.size w wx)
        case first =>
          go_wp2_with (go_at_call 83; (refine (faultAt_is _ _ _ rfl _ _ A _ (sent_err 5 (by decide) (by decide)) (Nat.le_refl _)).mono ?_); (rintro e w1 ⟨⟨v1, rfl, hv1⟩, hb1⟩); (obtain ⟨t1, x1, rfl⟩ := hv1.iface (by decide)))
          all_goals
            go_meet
            refine ⟨_, _, _, rfl, ?_, ?_, (BoxAt.new w [.int .u64 0, .int .i64 0, .slice none 0 0] 50).below hb1, hv1.mono (by simp), (show Below w.heap.size w _ by go_grown).trans (hb1.mono (by simp))⟩
            · rw [pageOf_max]; omega
            · simp
        case rest =>
        obtain ⟨t1, x1, lp1, rfl, hpo, hlp1, hx1, hv1, hb1⟩ := hcut
        have HX1 := Lib.hid hx1
        have HV1 := Lib.hid hv1
        have HB1 := Lib.hid hb1
        have HPO := Lib.hid hpo
        have HLP := Lib.hid hlp1
        clear hx1 hv1 hb1 hpo hlp1
        go_upto_region 3 with (go_at_call 84; (refine (openAt_is a c l at_ p 0 (-1) HR.out _ A (HS.out.below HB1.out) (HB.out.below HB1.out)).mono ?_); (rintro e w2 ⟨⟨a2, c2, ev, lp, rfl, ho2, hE2, hp2, hl2⟩, hb2⟩); (obtain ⟨rfl, rfl⟩ := hE2.isNil); (have HX2 := Lib.hid (HX1.out.below hb2)); (have HV2 := Lib.hid (HV1.out.below hb2)); (have HB2 := Lib.hid (below_step HB1.out hb2)); (have HO2 := Lib.hid ho2); (clear ho2 hE2 hp2 hl2 hb2))
        refine wp_name fun W hW => ?_
        have HXW := Lib.hid (show BoxAt W w.heap.size [.int .u64 0, .int .i64 0, .slice none 0 0] by rw [hW]; exact HX2.out.alloc _)
        have HVW := Lib.hid (show ErrIs W A (w.heap.size + 1) lp1 5 (.iface t1 x1) by rw [hW]; exact HV2.out.below ((Below.refl _ _).alloc (Nat.le_refl _) _))
        have HBW := Lib.hid (show Below w.heap.size w W by rw [hW]; exact HB2.out.alloc HB2.out.size _)
        have HPW := Lib.hid (show BoxAt W w2.heap.size [.int .i64 p.kind, .int .i64 p.id, .int .u64 (p.gen : Int), .slice a2 p.body.length c2] by rw [hW]; exact BoxAt.new w2 [_, _, _, _] _)
        have HOW := Lib.hid (show Own W wc.heap.size (.slice a2 p.body.length c2) p.body by rw [hW]; exact HO2.out.alloc _)
        have hlw := HX2.out.lt
        have hn1 : ¬ w2.heap.size = w.heap.size := Nat.ne_of_gt hlw
        have hn2 : ¬ w.heap.size = w2.heap.size := Nat.ne_of_lt hlw
        clear hW
        obtain ⟨q0, q1, q2, q3⟩ := HPW.out.four
        obtain ⟨m0, m1, m2⟩ := HXW.out.three
        have f0 := HXW.out.free 0 _ rfl
        have f1 := HXW.out.free 1 _ rfl
        have f2 := HXW.out.free 2 _ rfl
        go_wp2_with (first
          | (go_at_call 71; (refine (one_is gen at_ _ HONE.out hg _).mono ?_); (rintro e w3 ⟨rfl, hb3⟩); (have HX3 := Lib.hid (HXW.out.below hb3)); (have HP3 := Lib.hid (HPW.out.below hb3)); (have HV3 := Lib.hid (HVW.out.below hb3)); (have HB3 := Lib.hid (below_step HBW.out hb3)); (have HO3 := Lib.hid (HOW.out.below hb3 (Nat.le_refl _))); (obtain ⟨q0, q1, q2, q3⟩ := HP3.out.four); (obtain ⟨m0, m1, m2⟩ := HX3.out.three); (have f0 := HX3.out.free 0 _ rfl); (have f1 := HX3.out.free 1 _ rfl); (have f2 := HX3.out.free 2 _ rfl); (clear hb3))
          | (go_at_call 85; (refine (mapSaid_is p m HM.out a2 c2 _ A (HS.out.below HB3.out) HO3.out.bytes hpl).mono ?_); (rintro e w4 ⟨⟨a4, c4, rfl, ho4⟩, hb4⟩); (have HX4 := Lib.hid (HX3.out.below hb4)); (have HV4 := Lib.hid (HV3.out.below hb4)); (have HB4 := Lib.hid (below_step HB3.out hb4)); (have HO4 := Lib.hid ho4); (clear ho4 hb4))
          | (go_at_call 32; (refine (mapSeal_ok m at_ l.length L HL.out a4 c4 _ A (HS.out.below (HB4.out.alloc HB4.out.size _)) (HO4.out.alloc _).ints hmg HSC.out).mono ?_); (rintro e w5 ⟨⟨a5, c5, rfl, ho5⟩, hb5⟩); (have HO5 := Lib.hid ho5.bytes); (have HX5 := Lib.hid ((HX4.out.alloc _).below hb5)); (have HY5 := Lib.hid ((BoxAt.new w4 [.int .u64 (m.gen : Int), .int .i64 m.blocks, .slice a4 m.used.length c4] 50).below hb5)); (have HV5 := Lib.hid ((HV4.out.below ((Below.refl _ _).alloc (Nat.le_refl _) _)).below hb5)); (have HB5 := Lib.hid (below_step (HB4.out.alloc HB4.out.size _) hb5)); (have HM5 := Lib.hid ((HO4.out.alloc (.cells #[.int .u64 (m.gen : Int), .int .i64 m.blocks, .slice a4 m.used.length c4] 50)).below hb5 (Nat.le_refl _))); (obtain ⟨m0, m1, m2⟩ := HX5.out.three); (obtain ⟨y0, y1, y2⟩ := HY5.out.three); (have f0 := HX5.out.free 0 _ rfl); (have f1 := HX5.out.free 1 _ rfl); (have f2 := HX5.out.free 2 _ rfl); (have hlw4 := HX4.out.lt); (have hn3 : ¬ w4.heap.size = w.heap.size := Nat.ne_of_gt hlw4); (have hn4 : ¬ w.heap.size = w4.heap.size := Nat.ne_of_lt hlw4); (clear hb5 ho5))
          | (go_at_call 54; (refine (equal_is _ _ L l _ HE.out _ HO5.out (HB.out.below HB5.out)).mono ?_); (rintro e w6 ⟨rfl, hb6⟩); (have HX6 := Lib.hid (HX5.out.below hb6)); (have HV6 := Lib.hid (HV5.out.below hb6)); (have HB6 := Lib.hid (below_step HB5.out hb6)); (have HM6 := Lib.hid (HM5.out.below hb6 (Nat.le_refl _))); (obtain ⟨z0, z1, z2⟩ := (HY5.out.below hb6).three); (obtain ⟨s0, s1, s2⟩ := HX6.out.three); (have sf0 := HX6.out.free 0 _ rfl); (have sf1 := HX6.out.free 1 _ rfl); (have sf2 := HX6.out.free 2 _ rfl); (clear hb6)))
        have hb := HB6.out
        have hlw3 := HX3.out.lt
        refine bodyPost_ret (v := .tuple #[mapV m (.slice a4 m.used.length c4), .nilIface]) (by simp [results, Tryd.results44, go_sem, s0, s1, s2, mapV]) rfl ?_
        rw [HT.out]
        exact ⟨⟨a4, c4, _, [], rfl, (((HM6.out.keep (grownBy_set (World.grownBy.refl w6 (some w.heap.size)) 0 _) (by omega)).keep (grownBy_set (World.grownBy.refl _ (some w.heap.size)) 1 _) (by omega)).keep (grownBy_set (World.grownBy.refl _ (some w.heap.size)) 2 _) (by omega)).mono (by omega), ErrIs.nil _ _ _, rfl, by simp⟩, by go_grown⟩
end Go.Proofs.YtlobelfnjabajaaDoor
