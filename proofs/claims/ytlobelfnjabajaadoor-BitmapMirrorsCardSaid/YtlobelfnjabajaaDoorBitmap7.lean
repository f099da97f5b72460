/- bitmaps: the document's Seal -/
import Derived.Test.YtlobelfnjabajaaDoorBitmap6
import Derived.Test.YtlobelfnjabajaaDoorRefSeal
namespace Go.Proofs.YtlobelfnjabajaaDoor
open Go.RowKit
set_option linter.unusedVariables false
set_option linter.unusedSimpArgs false

/-- the first j bytes of a map's bits -/
def bitsJ (l : List Int) (j : Nat) : List UInt8 := (List.range j).map (Bm.byteOf l)
theorem bitsJ_succ (l : List Int) (j : Nat) : bitsJ l (j + 1) = bitsJ l j ++ [Bm.byteOf l j] := by unfold bitsJ; rw [List.range_succ, List.map_append]; rfl
theorem bitsJ_length (l : List Int) (j : Nat) : (bitsJ l j).length = j := by simp [bitsJ]
theorem bytes_zero (w : World) (a : Option Addr) : BytesAt w (.slice a 0 0) [] := ⟨a, 0, rfl, Nat.le_refl _, Nat.zero_le _, .inl rfl⟩
theorem bitX_step (l : List Int) (j r : Nat) (h : r ≤ 7) : Bm.bitX l j (8 - r) = 2 * Bm.bitX l j (8 - (r + 1)) + if ((8 * j + r : Nat) : Int) ∈ l then 1 else 0 := by
  rw [show 8 - r = (8 - (r + 1)) + 1 by omega, Bm.bitX, show 7 - (8 - (r + 1)) = r by omega]
theorem refPut4_is (v : Value) (l m : List UInt8) (n : Nat) (N : Int) (w : World) (hm : l ++ Fld.le 4 n = m) (hN : N = (n : Int)) (hb : BytesAt w v l) (hn : n < 4294967296) (hlen : l.length ≤ 1000) :
    Calls Tryd.prog 81 #[v, .int .u64 N, .int .i64 4] w fun e w' => (∃ a c, e = .returned (.tuple #[.slice a m.length c, .int .i64 0]) ∧ Own w' w.heap.size (.slice a m.length c) m) ∧ Below w.heap.size w w' := by
  subst hm hN
  exact (refPut_ok v l n 4 w hb (by decide) hn (by omega) (by omega)).mono fun e w' ⟨hg, hb⟩ => ⟨hg.seen, hb⟩
theorem refMapSeal_page (at_ : Int) (gen : Nat) (B : List UInt8) (a : Option Addr) (c : Nat) (size : Nat) (L : List UInt8) (hL : Pg.sealL ⟨5, at_, gen, B⟩ size = L) (w : World) (hb : BytesAt w (.slice a B.length c) B) (h : Pg.checkC ⟨5, at_, gen, B⟩ size = 0) (hg : gen < 18446744073709551616) :
    Calls Tryd.prog 82 #[.agg #[.int .i64 5, .int .i64 at_, .int .u64 (gen : Int), .slice a B.length c], .int .i64 (size : Int)] w fun e w' => (∃ a2 c2, e = .returned (.slice a2 L.length c2) ∧ Own w' w.heap.size (.slice a2 L.length c2) L) ∧ Below w.heap.size w w' := by
  subst hL
  exact refSeal_ok ⟨5, at_, gen, B⟩ a c size w hb h hg
set_option maxRecDepth 100000 in
set_option maxHeartbeats 4000000 in
theorem refMapSeal_ok (m : Bm.Map) (at_ : Int) (size : Nat) (L : List UInt8) (hL : Bm.sealB m at_ size = L) (a0 : Option Addr) (c0 : Nat) (w : World) (hu : IntsAt w (.slice a0 m.used.length c0) m.used) (hg : m.gen < 18446744073709551616) (hr : Bm.Right m) (hat : 0 ≤ at_ ∧ at_ ≤ 255) (hz : 256 ≤ size ∧ size ≤ 1024) :
    Calls Tryd.prog 43 #[.agg #[.int .u64 (m.gen : Int), .int .i64 m.blocks, .slice a0 m.used.length c0], .int .i64 at_, .int .i64 (size : Int)] w fun e w' => (∃ a c, e = .returned (.slice a L.length c) ∧ Own w' w.heap.size (.slice a L.length c) L) ∧ Below w.heap.size w w' := by
  have HU := Lib.hid hu
  have HL := Lib.hid hL
  have HCK := Lib.hid (Bm.check_page (at_ := at_) (size := size) hr hat hz)
  have hr1 := hr.1
  have hr2 := hr.2.1
  have hr3 := hr.2.2.2.1
  obtain ⟨hz1, hz2⟩ := hz
  clear hu hL hr hat
  obtain ⟨gen, blocks, used⟩ := m
  simp only at *
  obtain ⟨bn, rfl⟩ : ∃ n : Nat, blocks = n := ⟨blocks.toNat, by omega⟩
  have b1 : bn ≤ 256 := by omega
  have b2 : used.length ≤ 256 := by omega
  have b3 : 8 ≤ bn := by omega
  clear hr1 hr2 hr3
  obtain ⟨NB, hNB⟩ : ∃ NB : Nat, (bn + 7) / 8 = NB := ⟨_, rfl⟩
  obtain ⟨q1, hq1⟩ : ∃ m, ([] : List UInt8) ++ Fld.le 4 bn = m := ⟨_, rfl⟩
  obtain ⟨q2, hq2⟩ : ∃ m, q1 ++ Fld.le 4 used.length = m := ⟨_, rfl⟩
  have HL1 := Lib.hid (show q1.length = 4 by rw [← hq1]; simp [Fld.le_length])
  have HL2 := Lib.hid (show q2.length = 8 by rw [← hq2]; simp [Fld.le_length, HL1.out])
  have hpg : Bm.pageOf ⟨gen, bn, used⟩ at_ = ⟨5, at_, gen, q2 ++ bitsJ used NB⟩ := by
    unfold Bm.pageOf Bm.bodyL Bm.bitsL bitsJ
    rw [← hq2, ← hq1, ← hNB]
    simp
  have HPG := Lib.hid hpg
  have H1 := Lib.hid hq1
  have H2 := Lib.hid hq2
  have HNB := Lib.hid hNB
  clear hq1 hq2 hpg hNB
  go_enter Tryd.func43, Tryd.ntmps43
  go_upto_region 2 with (go_at_call 81; (refine (refPut4_is _ [] q1 bn _ _ H1.out (by first | rfl | exact (IntKind.wrap_u64 _).trans (by omega)) (bytes_zero _ _) (by omega) (by simp)).mono ?_); (rintro e w3 ⟨⟨a3, c3, rfl, ho3⟩, hb3⟩); (have HX3 := Lib.hid (((BoxAt.new w [.int .u64 (gen : Int), .int .i64 (bn : Int), .slice a0 used.length c0] 54).alloc _).below hb3)); (have HB3 := Lib.hid ((show Below w.heap.size w _ by go_grown).trans (hb3.mono (by simp; omega)))); (have HO3 := Lib.hid ho3); (clear hb3 ho3))
  obtain ⟨m0, m1, m2⟩ := HX3.out.three
  go_upto_region 3 with (go_at_call 81; (refine (refPut4_is _ q1 q2 used.length _ _ H2.out (by first | rfl | exact (IntKind.wrap_u64 _).trans (by omega)) HO3.out.bytes (by omega) (by have := HL1.out; omega)).mono ?_); (rintro e w4 ⟨⟨a4, c4, rfl, ho4⟩, hb4⟩); (have HX4 := Lib.hid (HX3.out.below hb4)); (have HB4 := Lib.hid (below_step HB3.out hb4)); (have HO4 := Lib.hid ho4); (clear hb4 ho4))
  have hx3 := HX3.out.lt
  clear m0 m1 m2
  go_wp2_with fail
  go_loopw [7, 9] (fun v i wr => ∃ j : Nat, j ≤ NB ∧ i = .int .i64 j ∧ ∃ a c, v = .slice a (q2 ++ bitsJ used j).length c ∧ Own wr (w.heap.size + 1) v (q2 ++ bitsJ used j) ∧ BoxAt wr w.heap.size [.int .u64 (gen : Int), .int .i64 (bn : Int), .slice a0 used.length c0] ∧ Below w.heap.size w wr) (fun _ i _ => NB - (intOf i).toNat)
  case atStart => exact ⟨0, by omega, rfl, a4, c4, by simp [bitsJ], by simpa [bitsJ] using HO4.out.mono (by omega), HX4.out, HB4.out⟩
  case round =>
    obtain ⟨j, hj, rfl, a5, c5, rfl, ho5, hx5, hb5⟩ := hrel
    obtain ⟨Q, hQ⟩ : ∃ Q, q2 ++ bitsJ used j = Q := ⟨_, rfl⟩
    rw [hQ] at ho5 ⊢
    have HQ := Lib.hid hQ
    have hQlen : Q.length ≤ 40 := by rw [← hQ, List.length_append, bitsJ_length, HL2.out]; have := HNB.out; omega
    clear hQ
    have HO5 := Lib.hid ho5
    have HX5 := Lib.hid hx5
    have HB5 := Lib.hid hb5
    obtain ⟨m0, m1, m2⟩ := hx5.three
    have hs5 := hx5.lt
    clear ho5 hb5 hx5
    by_cases hlt : j < NB
    · have hlt1 : 8 * (j : Int) < (bn : Int) := by have := HNB.out; omega
      have hj32 : j < 32 := by have := HNB.out; omega
      go_wp2_with fail
      go_loop [10, 11] (fun x k => ∃ s : Nat, s ≤ 8 ∧ k = .int .i64 ((s : Int) - 1) ∧ x = .int .u8 ((Bm.bitX used j (8 - s) : Nat) : Int)) (fun _ k => (intOf k + 1).toNat)
      case atStart => exact ⟨8, by omega, rfl, rfl⟩
      case round =>
        obtain ⟨s, hs, rfl, rfl⟩ := hrel
        cases s with
        | zero =>
          rw [show ((0 : Nat) : Int) - 1 = -1 from rfl]
          have hbyte : ((Bm.bitX used j (8 - 0) : Nat) : Int) = ((Bm.byteOf used j).toNat : Int) := by rw [Bm.byteOf_nat]
          rw [hbyte]
          have HSU := Lib.hid (show Q ++ [Bm.byteOf used j] = q2 ++ bitsJ used (j + 1) by rw [← HQ.out, bitsJ_succ, List.append_assoc])
          generalize Bm.byteOf used j = x at *
          have hQl : Q.length + [x].length ≤ 140737488355328 := by simp; omega
          clear hbyte
          go_wp2_with (at_builtin; refine wpList_append_bytes rfl (.tmp 51) (.tmp 53) rfl (w.heap.size + 1) _ Q rfl (HO5.out.alloc _) _ [x] rfl (one_byte _ x _ rfl _) hQl (by simp; omega) ?_)
          intro v2 w2 hown hgrow hnn
          obtain ⟨a6, c6, rfl, -, -⟩ := hown.slice
          have hb6 : Below w.heap.size w w2 := (HB5.out.alloc HB5.out.size _).grown hgrow (by have := HB5.out.size; simp; omega) (fun k hk => by have := (HO5.out.lt k hk).1; omega)
          have hx6 := (HX5.out.alloc (.cells #[.int .u8 (x.toNat : Int)] 5)).grownR hgrow (fun e => by have := (HO5.out.lt _ e).1; omega)
          rw [HSU.out] at hown hnn ⊢
          have HO6 := Lib.hid hown
          have HX6 := Lib.hid hx6
          have HB6 := Lib.hid hb6
          clear hown hgrow hnn hb6 hx6
          go_wp2_with fail
          go_roundw
          case rel => exact ⟨j + 1, by omega, by go_num, a6, c6, rfl, HO6.out, HX6.out, HB6.out⟩
          case measure => simp [intOf]; omega
        | succ r =>
          have e1 : (((r + 1 : Nat) : Int) - 1) = (r : Int) := by omega
          rw [e1]
          have hst := bitX_step used j r (by omega)
          have hlx := Bm.bitX_lt used j (8 - (r + 1))
          have hlx2 : 2 ^ (8 - (r + 1)) ≤ 2 ^ 7 := Nat.pow_le_pow_right (by decide) (by omega)
          have hX : Bm.bitX used j (8 - (r + 1)) < 128 := by omega
          generalize Bm.bitX used j (8 - (r + 1)) = X at *
          have hr7 : r ≤ 7 := by omega
          have hX2 : (X : Int) < 128 := by omega
          clear hlx hlx2
          have hge : (0 : Int) ≤ (r : Int) := by omega
          by_cases hmem : ((8 * j + r : Nat) : Int) ∈ used
          · have HI := Lib.hid (show decide (8 * (j : Int) + (r : Int) ∈ used) = true by simpa using hmem)
            rw [if_pos hmem] at hst
            have HST := Lib.hid hst
            clear hst hmem
            go_wp2_with (go_at_call 69; (refine (refIn_is _ used _ _ HI.out _ (HU.out.below HB5.out)).mono ?_); (rintro e w3 ⟨rfl, rfl⟩))
            go_round
            case rel => exact ⟨r, by omega, by go_num, by rw [HST.out]; go_num⟩
            case measure => simp [intOf]
          · have HI := Lib.hid (show decide (8 * (j : Int) + (r : Int) ∈ used) = false by simpa using hmem)
            rw [if_neg hmem] at hst
            have HST := Lib.hid hst
            clear hst hmem
            go_wp2_with (go_at_call 69; (refine (refIn_is _ used _ _ HI.out _ (HU.out.below HB5.out)).mono ?_); (rintro e w3 ⟨rfl, rfl⟩))
            go_round
            case rel => exact ⟨r, by omega, by go_num, by rw [HST.out]; go_num⟩
            case measure => simp [intOf]
    · have hjj : j = NB := by omega
      subst hjj
      have hge : (bn : Int) ≤ 8 * (j : Int) := by have := HNB.out; omega
      have hj33 : (j : Int) ≤ 33 := by have := HNB.out; omega
      have HLL := Lib.hid (show Pg.sealL ⟨5, at_, gen, Q⟩ size = L by rw [← HL.out, Bm.sealB, HPG.out, HQ.out])
      have hck := HCK.out
      rw [HPG.out, HQ.out] at hck
      have HCK2 := Lib.hid hck
      clear hck
      go_wp2_with (go_at_call 82; (refine (refMapSeal_page at_ gen Q a5 c5 size L HLL.out _ HO5.out.bytes HCK2.out hg).mono ?_); (rintro e w7 ⟨⟨a7, c7, rfl, ho7⟩, hb7⟩); (have HO7 := Lib.hid (ho7.mono HB5.out.size)); (have HB7 := Lib.hid (below_step HB5.out hb7)); (clear ho7 hb7))
      go_ret
      exact ⟨⟨_, _, rfl, HO7.out⟩, HB7.out⟩
end Go.Proofs.YtlobelfnjabajaaDoor
