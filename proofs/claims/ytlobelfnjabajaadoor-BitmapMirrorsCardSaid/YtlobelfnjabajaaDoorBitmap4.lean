/- bitmaps: said -/
import Derived.Test.YtlobelfnjabajaaDoorBitmap3
import Derived.Test.YtlobelfnjabajaaDoorPageOpen3
namespace Go.Proofs.YtlobelfnjabajaaDoor
open Go.RowKit
set_option linter.unusedVariables false
set_option linter.unusedSimpArgs false

theorem Bm.usedOf_succ (b : List UInt8) (n : Nat) : Bm.usedOf b (n + 1) = Bm.usedOf b n ++ if Bm.bitAt b n then [(n : Int)] else [] := by
  unfold Bm.usedOf
  rw [List.range_succ, List.filter_append, List.map_append]
  congr 1
  cases h : Bm.bitAt b n <;> simp [h]
theorem Bm.usedOf_le (b : List UInt8) (n : Nat) : (Bm.usedOf b n).length ≤ n := by
  unfold Bm.usedOf
  rw [List.length_map]
  exact Nat.le_trans (List.length_filter_le _ _) (by simp)
theorem take_short (v : Value) (l : List UInt8) (A X : Int) (w : World) (A' : Nat → Addr) {S : Nat → Prop} [Has S 1] [Has S 2] (hs : SentsOn S w A') (hb : BytesAt w v l) (hx : Fld.right X = true) (hA : 0 ≤ A) (h1 : A ≤ l.length) (hat : (l.length : Int) < A + X) :
    Calls Tryd.prog 89 #[v, .int .i64 A, .int .i64 X] w fun e w' => (∃ t x, e = .returned (.tuple #[.int .u64 0, .iface t x])) ∧ Below w.heap.size w w' := by
  refine (take_any v l A X w A' hs hb).mono fun e w' ⟨⟨ev, lp, he, hE⟩, hb⟩ => ⟨?_, hb⟩
  have hT : takeS l A X = (0, 1) := by
    unfold takeS
    rw [if_neg (by rw [hx]; simp; omega), if_pos (by rcases Fld.right_cases hx with h | h | h | h <;> omega)]
  rw [hT] at he hE
  obtain ⟨t, x, rfl⟩ := hE.iface (by decide)
  exact ⟨t, x, he⟩
/-- a map of new memory -/
def GivesMap (w : World) (m : Bm.Map) (e : Ending) (w' : World) : Prop :=
  ∃ a c, e = .returned (.agg #[.int .u64 (m.gen : Int), .int .i64 m.blocks, .slice a m.used.length c]) ∧ OwnI w' w.heap.size (.slice a m.used.length c) m.used
theorem bits_and_u8 (n : Nat) (h : n < 256) : bits .and .u8 (n : Int) 1 = ((n % 2 : Nat) : Int) := by
  show IntKind.u8.wrap ((BitVec.ofInt 8 (n : Int) &&& BitVec.ofInt 8 1).toNat : Int) = _
  rw [BitVec.ofInt_natCast]
  rw [show BitVec.ofInt 8 1 = BitVec.ofNat 8 1 from rfl, BitVec.toNat_and, BitVec.toNat_ofNat, BitVec.toNat_ofNat, Nat.mod_eq_of_lt h]
  rw [show (1 % 2 ^ 8 : Nat) = 1 from rfl, Nat.and_one_is_mod]
  rw [IntKind.wrap_u8]
  omega
theorem said_num {p : Pg.Page} (h1 : 4 ≤ p.body.length) (h2 : Pg.num p.body 0 4 ≤ 256) : Bm.said p = ⟨p.gen, (Pg.num p.body 0 4 : Nat), Bm.usedOf p.body (Pg.num p.body 0 4)⟩ := by
  unfold Bm.said; rw [if_pos ⟨h1, h2⟩]
theorem said_zero {p : Pg.Page} (h : p.body.length < 4 ∨ 256 < Pg.num p.body 0 4) : Bm.said p = Bm.zero := by
  unfold Bm.said; rw [if_neg (by omega)]
set_option maxRecDepth 100000 in
set_option maxHeartbeats 4000000 in
theorem mapSaid_any (p : Pg.Page) (a0 : Option Addr) (c0 : Nat) (w : World) (A : Nat → Addr) {S : Nat → Prop} [Has S 1] [Has S 2] (hs : SentsOn S w A) (hb : BytesAt w (.slice a0 p.body.length c0) p.body) (hl : p.body.length ≤ 140737488351232) :
    Calls Tryd.prog 85 #[.agg #[.int .i64 p.kind, .int .i64 p.id, .int .u64 (p.gen : Int), .slice a0 p.body.length c0]] w fun e w' => GivesMap w (Bm.said p) e w' ∧ Below w.heap.size w w' := by
  have HS := Lib.hid hs
  have HB := Lib.hid hb
  clear hs hb
  by_cases h4 : 4 ≤ p.body.length
  · by_cases h256 : Pg.num p.body 0 4 ≤ 256
    · have HSD := Lib.hid (said_num h4 h256)
      obtain ⟨kind, id, gen, body⟩ := p
      simp only at *
      have hnum : numI body 0 4 = ((Pg.num body 0 4 : Nat) : Int) := rfl
      generalize Pg.num body 0 4 = N at *
      have HNUM := Lib.hid hnum
      clear hnum
      have hN : (N : Int) ≤ 256 := by omega
      go_enter Tryd.func85, Tryd.ntmps85
      go_upto_region 5 with (go_at_call 89; (refine (take_num _ body 0 4 _ ((HB.out.alloc _).alloc _) (by decide) (by decide) (by omega)).mono ?_); (rintro e w1 ⟨rfl, rfl⟩); (rw [HNUM.out]))
      refine wp_name fun W hW => ?_
      have hX1 : BoxAt W w.heap.size [.int .i64 kind, .int .i64 id, .int .u64 (gen : Int), .slice a0 body.length c0] := by rw [hW]; exact ((BoxAt.new w [_, _, _, _] _).alloc _).alloc _
      have hX2 : BoxAt W (w.heap.size + 1) [.int .u64 0, .int .i64 0, .slice none 0 0] := by rw [hW]; exact (BoxAt.newAt (w.alloc _) _ (by simp) [_, _, _] _).alloc _
      have hX3 : BoxAt W (w.heap.size + 1 + 1) [.int .u64 (gen : Int), .int .i64 (N : Int), .slice none 0 0] := by rw [hW]; exact BoxAt.newAt ((w.alloc _).alloc _) _ (by simp) [_, _, _] _
      have hbW : Below w.heap.size w W := by rw [hW]; go_grown
      have HX1 := Lib.hid hX1
      have HX2 := Lib.hid hX2
      have HX3 := Lib.hid hX3
      have HBW := Lib.hid hbW
      have hsW := hX3.lt
      obtain ⟨m0, m1, m2⟩ := hX3.three
      clear hW hX1 hX2 hX3 hbW
      go_wp2_with fail
      go_loopw [28] (fun i wr => ∃ k : Nat, k ≤ N ∧ i = .int .i64 k ∧ ∃ v, BoxAt wr w.heap.size [.int .i64 kind, .int .i64 id, .int .u64 (gen : Int), .slice a0 body.length c0] ∧ BoxAt wr (w.heap.size + 1) [.int .u64 0, .int .i64 0, .slice none 0 0] ∧ BoxAt wr (w.heap.size + 1 + 1) [.int .u64 (gen : Int), .int .i64 (N : Int), v] ∧ OwnI wr (w.heap.size + 1 + 1 + 1) v (Bm.usedOf body k) ∧ Below w.heap.size w wr) (fun i _ => N - (intOf i).toNat)
      case atStart => exact ⟨0, by omega, rfl, _, HX1.out, HX2.out, HX3.out, OwnI.nil _ _, HBW.out⟩
      case round =>
        obtain ⟨k, hk, rfl, v, hx1, hx2, hx3, ho, hbr⟩ := hrel
        have Y1 := Lib.hid hx1
        have Y2 := Lib.hid hx2
        have Y3 := Lib.hid hx3
        have HO := Lib.hid ho
        have HBR := Lib.hid hbr
        have hsr := hx3.lt
        have HLE := Lib.hid (Bm.usedOf_le body k)
        have HSU := Lib.hid (Bm.usedOf_succ body k)
        have HBA := Lib.hid (show Bm.bitAt body k = match body[8 + k / 8]? with | some x => x.toNat.testBit (k % 8) | none => false from rfl)
        clear m0 m1 m2
        obtain ⟨m0, m1, m2, m3⟩ := hx1.four
        obtain ⟨y0, y1, y2⟩ := hx3.three
        clear hx1 hx2 hx3 ho hbr
        by_cases hlt : k < N
        · obtain ⟨q, hq⟩ : ∃ q : Nat, k / 8 = q := ⟨_, rfl⟩
          obtain ⟨r, hr⟩ : ∃ r : Nat, k % 8 = r := ⟨_, rfl⟩
          have hqi : (k : Int) / 8 = (q : Int) := by omega
          have hri : (k : Int) % 8 = (r : Int) := by omega
          have hrt : (k : Int).tmod 8 = (r : Int) := by rw [Int.tmod_eq_emod_of_nonneg (by omega)]; exact hri
          have hqt : (k : Int).tdiv 8 = (q : Int) := by rw [Int.tdiv_eq_ediv_of_nonneg (by omega)]; exact hqi
          have hwq : IntKind.i64.wrap (q : Int) = (q : Int) := by rw [IntKind.wrap_i64]; omega
          have hwr : IntKind.i64.wrap (r : Int) = (r : Int) := by rw [IntKind.wrap_i64]; omega
          have hrb : r < 8 := by omega
          have hqb : q ≤ 32 := by omega
          rw [hq, hr] at HBA
          have hlt1 : (k : Int) < (N : Int) := by omega
          clear hq hr
          by_cases hat : 8 + q < body.length
          · obtain ⟨x, hx⟩ := getElem?_some_of_lt hat
            obtain ⟨a', c', e, p1, p2, p3⟩ := HB.out
            obtain ⟨rfl, rfl⟩ : a0 = a' ∧ c0 = c' := by injection e with e1 e2 e3; exact ⟨e1, e3⟩
            rcases p3 with hn | ⟨b1, o1, rfl, hc1⟩
            · rw [hn] at hat; simp at hat
            have hcx : wr.cell? ⟨b1, o1 + (8 + q), none⟩ = some (.int .u8 (x.toNat : Int)) := (HBR.out.cell (World.block_lt_of_cell? w _ (hc1 _ x hx))).trans (hc1 _ x hx)
            have hbit : Bm.bitAt body k = x.toNat.testBit r := by rw [HBA.out, hx]
            have hat1 : 8 + (q : Int) < (body.length : Int) := by omega
            have hxl := x.toNat_lt
            have HBT := Lib.hid hbit
            generalize hX : x.toNat = X at *
            obtain ⟨Z, hZ⟩ : ∃ Z : Nat, X / 2 ^ r = Z := ⟨_, rfl⟩
            have hZi : (X : Int) / 2 ^ r = (Z : Int) := by rw [← hZ]; simp
            have hZ8 : Z < 256 := by rw [← hZ]; exact Nat.lt_of_le_of_lt (Nat.div_le_self _ _) hxl
            have hZb := bits_and_u8 Z hZ8
            have hZt : X.testBit r = decide (Z % 2 = 1) := by rw [Nat.testBit_eq_decide_div_mod_eq, hZ]
            clear hc1 e p1 p2 hx hbit hX hZ
            rcases (show Z % 2 = 1 ∨ Z % 2 = 0 by omega) with hz | hz
            · have HU := Lib.hid (show Bm.usedOf body (k + 1) = Bm.usedOf body k ++ [(k : Int)] by rw [HSU.out, HBT.out, hZt, hz]; rfl)
              have hb1 : bits .and .u8 (Z : Int) 1 = 1 := by rw [hZb, hz]; rfl
              have hll : (Bm.usedOf body k).length + [(k : Int)].length ≤ 17592186044416 := by have := HLE.out; simp; omega
              clear hZb hZt hz
              go_wp2_with (at_builtin; refine wpList_append_ints rfl (.tmp 52) (.tmp 54) rfl (w.heap.size + 1 + 1 + 1) _ (Bm.usedOf body k) rfl (HO.out.alloc _) _ [(k : Int)] rfl (one_int _ _ _) hll (by simp; omega) ?_)
              intro v2 w2 hown hgrow hnn
              obtain ⟨a3, c3, rfl, -, -⟩ := hown.slice
              obtain ⟨n3, hn3⟩ : ∃ n, (Bm.usedOf body k ++ [(k : Int)]).length = n := ⟨_, rfl⟩
              rw [hn3] at hown hnn ⊢
              have hbr2 : Below w.heap.size w w2 := (HBR.out.alloc HBR.out.size _).grown hgrow (by have := HBR.out.size; simp; omega) (fun j hj => by have := (HO.out.lt j hj).1; omega)
              have Y1b := (Y1.out.alloc (.cells #[.int .i64 (k : Int)] 3)).grownR hgrow (fun e => by have := (HO.out.lt _ e).1; omega)
              have Y2b := (Y2.out.alloc (.cells #[.int .i64 (k : Int)] 3)).grownR hgrow (fun e => by have := (HO.out.lt _ e).1; omega)
              have Y3b := (Y3.out.alloc (.cells #[.int .i64 (k : Int)] 3)).grownR hgrow (fun e => by have := (HO.out.lt _ e).1; omega)
              have x2 := Y3b.at 2 _ rfl
              have x2f := Y3b.free 2 _ rfl
              have Z1 := Lib.hid (Y1b.set (k := w.heap.size + 1 + 1) (by omega) 2 (.slice a3 n3 c3))
              have Z2 := Lib.hid (Y2b.set (k := w.heap.size + 1 + 1) (by omega) 2 (.slice a3 n3 c3))
              have Z3 := Lib.hid (Y3b.put 2 (.slice a3 n3 c3))
              have ZO := Lib.hid (hown.keep (grownBy_set (World.grownBy.refl w2 (some (w.heap.size + 1 + 1))) 2 (.slice a3 n3 c3)) (by omega))
              have ZB := Lib.hid (hbr2.setCell (p := ⟨w.heap.size + 1 + 1, 2, none⟩) (by show w.heap.size ≤ w.heap.size + 1 + 1; omega) (.slice a3 n3 c3))
              clear hgrow hown hnn hbr2 Y1b Y2b Y3b
              go_wp2_with fail
              go_roundw
              case rel => exact ⟨k + 1, by omega, by go_num, _, Z1.out, Z2.out, Z3.out, by rw [HU.out]; exact ZO.out, ZB.out⟩
              case measure => simp [intOf]; omega
            · have HU := Lib.hid (show Bm.usedOf body (k + 1) = Bm.usedOf body k by rw [HSU.out, HBT.out, hZt, hz]; simp)
              have hb1 : bits .and .u8 (Z : Int) 1 = 0 := by rw [hZb, hz]; rfl
              clear hZb hZt hz
              go_wp2_with fail
              go_roundw
              case rel => exact ⟨k + 1, by omega, by go_num, v, Y1.out, Y2.out, Y3.out, by rw [HU.out]; exact HO.out, HBR.out⟩
              case measure => simp [intOf]; omega
          · have hat1 : (body.length : Int) ≤ 8 + (q : Int) := by omega
            have HU := Lib.hid (show Bm.usedOf body (k + 1) = Bm.usedOf body k by rw [HSU.out, HBA.out, List.getElem?_eq_none (by omega)]; simp)
            go_wp2_with fail
            go_roundw
            case rel => exact ⟨k + 1, by omega, by go_num, v, Y1.out, Y2.out, Y3.out, by rw [HU.out]; exact HO.out, HBR.out⟩
            case measure => simp [intOf]; omega
        · have hkk : k = N := by omega
          subst hkk
          obtain ⟨f0, f1, f2⟩ := Y2.out.three
          have u0 := Y2.out.free 0 _ rfl
          have u1 := Y2.out.free 1 _ rfl
          have u2 := Y2.out.free 2 _ rfl
          obtain ⟨av, cv, rfl, -, -⟩ := HO.out.slice
          go_wp2_with fail
          have hb := HBR.out
          refine bodyPost_ret (v := .agg #[.int .u64 (gen : Int), .int .i64 (k : Int), .slice av (Bm.usedOf body k).length cv]) (by simp [results, Tryd.results85, go_sem, f0, f1, f2]) rfl ?_
          rw [HSD.out]
          refine ⟨⟨av, cv, rfl, ?_⟩, by go_grown⟩
          exact ((((HO.out.keep (grownBy_set (World.grownBy.refl wr (some (w.heap.size + 1))) 0 _) (by omega)).keep (grownBy_set (World.grownBy.refl _ (some (w.heap.size + 1))) 1 _) (by omega)).keep (grownBy_set (World.grownBy.refl _ (some (w.heap.size + 1))) 2 _) (by omega))).mono (by omega)
    · have HSD := Lib.hid (said_zero (p := p) (.inr (by omega)))
      obtain ⟨kind, id, gen, body⟩ := p
      simp only at *
      have hnum : numI body 0 4 = ((Pg.num body 0 4 : Nat) : Int) := rfl
      have hnb : Pg.num body 0 4 < 4294967296 := Pg.num_lt body 0 4
      generalize Pg.num body 0 4 = N at *
      have HNUM := Lib.hid hnum
      clear hnum
      have hN : 256 < (N : Int) := by omega
      clear hnb h256
      go_enter Tryd.func85, Tryd.ntmps85
      go_wp2_with (go_at_call 89; (refine (take_num _ body 0 4 _ ((HB.out.alloc _).alloc _) (by decide) (by decide) (by omega)).mono ?_); (rintro e w1 ⟨rfl, rfl⟩); (rw [HNUM.out]))
      refine bodyPost_ret (v := .agg #[.int .u64 0, .int .i64 0, .slice none 0 0]) (by simp [results, Tryd.results85, go_sem]) rfl ?_
      rw [HSD.out]
      exact ⟨⟨none, 0, rfl, OwnI.nil _ _⟩, by go_grown⟩
  · have HSD := Lib.hid (said_zero (p := p) (.inl (by omega)))
    obtain ⟨kind, id, gen, body⟩ := p
    simp only at *
    go_enter Tryd.func85, Tryd.ntmps85
    go_wp2_with (go_at_call 89; (refine (take_short _ body 0 4 _ A (HS.out.below (by go_grown)) ((HB.out.alloc _).alloc _) (by decide) (by decide) (by omega) (by omega)).mono ?_); (rintro e w1 ⟨⟨t, x, rfl⟩, hb1⟩); (have HX1 := Lib.hid ((BoxAt.newAt (w.alloc _) (w.heap.size + 1) (by simp) [.int .u64 0, .int .i64 0, .slice none 0 0] 50).below hb1)); (obtain ⟨m0, m1, m2⟩ := HX1.out.three); (have f0 := HX1.out.free 0 _ rfl); (have f1 := HX1.out.free 1 _ rfl); (have f2 := HX1.out.free 2 _ rfl); (have HB1 := Lib.hid ((show Below w.heap.size w _ by go_grown).trans (hb1.mono (by simp; omega)))); (clear hb1))
    have hb := HB1.out
    refine bodyPost_ret (v := .agg #[.int .u64 0, .int .i64 0, .slice none 0 0]) (by simp [results, Tryd.results85, go_sem, m0, m1, m2]) rfl ?_
    rw [HSD.out]
    exact ⟨⟨none, 0, rfl, OwnI.nil _ _⟩, by go_grown⟩
end Go.Proofs.YtlobelfnjabajaaDoor
