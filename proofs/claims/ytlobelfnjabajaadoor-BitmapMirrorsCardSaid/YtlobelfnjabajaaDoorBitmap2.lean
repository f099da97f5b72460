/- bitmaps: Places, one, bits -/
import Derived.Test.YtlobelfnjabajaaDoorBitmap
import Derived.Test.YtlobelfnjabajaaDoorPageSeal
import Derived.Laws.StructEq
import Derived.Test.YtlobelfnjabajaaDoorChanged
namespace Go.Proofs.YtlobelfnjabajaaDoor
open Go.RowKit
set_option linter.unusedVariables false
set_option linter.unusedSimpArgs false

/-- a number's lowest bit -/
theorem bits_and_one (n : Nat) (h : n < 18446744073709551616) : bits .and .u64 (n : Int) 1 = ((n % 2 : Nat) : Int) := by
  show IntKind.u64.wrap ((BitVec.ofInt 64 (n : Int) &&& BitVec.ofInt 64 1).toNat : Int) = _
  rw [BitVec.ofInt_natCast]
  rw [show BitVec.ofInt 64 1 = BitVec.ofNat 64 1 from rfl, BitVec.toNat_and, BitVec.toNat_ofNat, BitVec.toNat_ofNat, Nat.mod_eq_of_lt h]
  rw [show (1 % 2 ^ 64 : Nat) = 1 from rfl, Nat.and_one_is_mod]
  rw [IntKind.wrap_u64]
  omega
def twoV (x y : Int) : Value := .agg #[.int .i64 x, .int .i64 y]
set_option maxRecDepth 100000 in
theorem places_is (gen : Nat) (F : Int) (hF : Bm.first gen = F) (hg : gen < 18446744073709551616) (w : World) :
    Calls Tryd.prog 31 #[.int .u64 (gen : Int)] w fun e w' => e = .returned (.agg #[.int .i64 F, .int .i64 (F + 1)]) ∧ Below w.heap.size w w' := by
  have hb := bits_and_one gen hg
  have hm : gen % 2 < 2 := Nat.mod_lt _ (by decide)
  have hf : F = 2 + 2 * ((gen % 2 : Nat) : Int) := by rw [← hF]; unfold Bm.first; omega
  generalize gen % 2 = m at *
  have hm1 : (m : Int) ≤ 1 := by omega
  clear hg hF
  go_enter Tryd.func31, Tryd.ntmps31
  go_wp2
  refine bodyPost_ret (v := twoV F (F + 1)) (by simp [results, Tryd.results31, go_sem, twoV]; omega) rfl ?_
  exact ⟨rfl, by go_grown⟩
theorem Tryd.two_eqD (D : Nat) (a b c d : Int) (w : World) : (Op.equalIn (D + 1 + 1) 56 (.agg #[.int .i64 a, .int .i64 b]) (.agg #[.int .i64 c, .int .i64 d])).run Tryd.prog w = .ok (a == c && b == d) w := by
  have h1 : Tryd.prog.underlying 56 = some (.array 2 3) := by kernel_rfl
  have h2 : Tryd.prog.underlying 3 = some (.int .i64) := by kernel_rfl
  obtain ⟨i, hi, hz, hs1, hb1⟩ := info_parts Tryd.infoInt
  have p0 : ∀ (x y : Value), (part 3 #[x, y] (0 * 1)).run Tryd.prog w = .ok x w := fun x y => by kernel_rfl
  have p1 : ∀ (x y : Value), (part 3 #[x, y] (1 * 1)).run Tryd.prog w = .ok y w := fun x y => by kernel_rfl
  rw [Op.equalIn]
  simp only [Sem.run_bind, run_underlying h1, Result.andThen_ok, sizeOf, typeInfo, run_program, hi, Sem.run_pure, hs1]
  rw [Std.Legacy.Range.forIn_eq_forIn_range']
  simp only [Std.Legacy.Range.size, List.range', List.forIn_cons, List.forIn_nil]
  simp [p0, p1, run_equalIn_int, h2, Result.andThen_ok]
  by_cases h3 : a = c <;> by_cases h4 : b = d <;> simp [h3, h4]
theorem Tryd.two_eq (a b c d : Int) (w : World) : (Op.equalIn 10000 56 (.agg #[.int .i64 a, .int .i64 b]) (.agg #[.int .i64 c, .int .i64 d])).run Tryd.prog w = .ok (a == c && b == d) w := Tryd.two_eqD 9998 a b c d w
theorem one_ways (gen : Nat) (at_ F : Int) (hF : Bm.first gen = F) : (at_ = F ∧ decide (Bm.one gen at_) = true) ∨ (at_ = F + 1 ∧ decide (Bm.one gen at_) = true) ∨ (at_ ≠ F ∧ at_ ≠ F + 1 ∧ decide (Bm.one gen at_) = false) := by
  subst hF
  have e : Bm.one gen at_ ↔ (at_ = Bm.first gen ∨ at_ = Bm.first gen + 1) := Iff.rfl
  simp only [e]
  generalize Bm.first gen = F
  by_cases h1 : at_ = F
  · exact .inl ⟨h1, by simp [h1]⟩
  · by_cases h2 : at_ = F + 1
    · exact .inr (.inl ⟨h2, by simp [h2]⟩)
    · exact .inr (.inr ⟨h1, h2, by simp [h1, h2]⟩)
set_option maxRecDepth 100000 in
theorem one_any (gen : Nat) (at_ : Int) (hg : gen < 18446744073709551616) (w : World) :
    Calls Tryd.prog 71 #[.int .u64 (gen : Int), .int .i64 at_] w fun e w' => e = .returned (.bool (decide (Bm.one gen at_))) ∧ Below w.heap.size w w' := by
  obtain ⟨F, hF⟩ : ∃ F, Bm.first gen = F := ⟨_, rfl⟩
  have hw := one_ways gen at_ F hF
  have HF := Lib.hid hF
  clear hF
  generalize decide (Bm.one gen at_) = R at *
  have he := Tryd.two_eq
  rcases hw with ⟨rfl, rfl⟩ | ⟨rfl, rfl⟩ | ⟨h1, h2, rfl⟩
  all_goals
    go_enter Tryd.func71, Tryd.ntmps71
    go_wp2_with (go_at_call 31; (refine (places_is gen _ HF.out hg _).mono ?_); (rintro e w1 ⟨rfl, hb1⟩); (have HB1 := Lib.hid hb1))
    go_ret
    exact ⟨by first | rfl | exact ret_bool (by simp [h1, h2]), HB1.out.alloc HB1.out.size _⟩

theorem or_spell (x : UInt8) (n : Nat) : bits .or .u8 (x.toNat : Int) ((2 : Int) ^ n % 256) = ((x ||| UInt8.ofNat (2 ^ n)).toNat : Int) := by
  rw [pow_u8, bits_or_u8]
set_option maxRecDepth 100000 in
set_option maxHeartbeats 1000000 in
theorem bits_any (gen blocks : Nat) (used : List Int) (a0 : Option Addr) (c0 : Nat) (w : World) (hu : IntsAt w (.slice a0 used.length c0) used) (hn : ∀ n ∈ used, 0 ≤ n ∧ n < (blocks : Int)) (hbl : blocks ≤ 256) :
    Calls Tryd.prog 74 #[.agg #[.int .u64 (gen : Int), .int .i64 (blocks : Int), .slice a0 used.length c0]] w fun e w' => (∃ a c, e = .returned (.slice a (Bm.bitsL blocks used).length c) ∧ Own w' w.heap.size (.slice a (Bm.bitsL blocks used).length c) (Bm.bitsL blocks used)) ∧ Below w.heap.size w w' := by
  have hul : used.length ≤ 9223372036854775807 := by
    obtain ⟨a', c', e, q1, q2, _⟩ := hu
    unfold maxLen at q2
    omega
  have HU := Lib.hid hu
  have HN := Lib.hid hn
  obtain ⟨NB, hNB⟩ : ∃ NB : Nat, (blocks + 7) / 8 = NB := ⟨_, rfl⟩
  have hlen := Bm.bitsL_length blocks
  have hzero : Bm.bitsL blocks [] = List.replicate NB 0 := by unfold Bm.bitsL; rw [hNB, show Bm.byteOf [] = fun _ => 0 from funext Bm.byteOf_nil, List.map_const', List.length_range]
  rw [hNB] at hlen
  have HLEN := Lib.hid hlen
  have HZERO := Lib.hid hzero
  have HNB := Lib.hid hNB
  have hNBi : ((blocks : Int) + 7) / 8 = (NB : Int) := by omega
  have hNB2 : NB ≤ 32 := by omega
  clear hu hn hlen hzero hNB
  go_enter Tryd.func74, Tryd.ntmps74
  go_wp2_with (at_make; refine wpList_make_bytes rfl _ _ rfl NB _ _ rfl rfl (by omega) (by omega) (by omega) ?_)
  intro w1 hown hgrow
  have hBX := (BoxAt.new w [.int .u64 (gen : Int), .int .i64 (blocks : Int), .slice a0 used.length c0] 50).grownR hgrow (by simp)
  have hb1 : Below w.heap.size w w1 := ((Below.refl w.heap.size w).alloc (Nat.le_refl _) _).grown hgrow (by simp) (by intro k hk; cases hk)
  have HBX := Lib.hid hBX
  have HB1 := Lib.hid hb1
  have HO := Lib.hid (hown.mono (b2 := w.heap.size) (by omega))
  have hs1 := hb1.size
  have hlt1 : w.heap.size + 1 < w1.heap.size := (hown.lt _ rfl).2
  obtain ⟨m0, m1, m2⟩ := hBX.three
  clear hBX hb1 hown hgrow
  go_wp2_with fail
  go_loopw [14] (fun i wr => ∃ k : Nat, k ≤ used.length ∧ i = .int .i64 k ∧ Own wr w.heap.size (.slice (some ⟨w.heap.size + 1, 0, none⟩) NB NB) (Bm.bitsL blocks (used.take k)) ∧ w1.grownBy wr (some (w.heap.size + 1))) (fun i _ => used.length - (intOf i).toNat)
  case atStart =>
    refine ⟨0, by omega, rfl, ?_, World.grownBy.refl _ _⟩
    rw [List.take_zero, HZERO.out]
    exact HO.out
  case round =>
    obtain ⟨k, hk, rfl, ho, hgr⟩ := hrel
    have HOR := Lib.hid ho
    have HGR := Lib.hid hgr
    have hbr := HB1.out.grown hgr HB1.out.size (fun k hk => by simp at hk; omega)
    have HBR := Lib.hid hbr
    clear ho hgr
    by_cases hlt : k < used.length
    · obtain ⟨x, hx⟩ := getElem?_some_of_lt hlt
      have hxb := HN.out x (List.mem_of_getElem? hx)
      obtain ⟨n, rfl⟩ : ∃ n : Nat, x = n := ⟨x.toNat, by omega⟩
      have hnb : n < blocks := by omega
      obtain ⟨a', c', e, q1, q2, q3⟩ := HU.out
      obtain ⟨rfl, rfl⟩ : a0 = a' ∧ c0 = c' := by injection e with e1 e2 e3; exact ⟨e1, e3⟩
      rcases q3 with hn | ⟨b1, o1, rfl, hc1⟩
      · rw [hn] at hlt; simp at hlt
      have hcx : wr.cell? ⟨b1, o1 + k, none⟩ = some (.int .i64 (n : Int)) := (hbr.cell (World.block_lt_of_cell? w _ (hc1 k _ hx))).trans (hc1 k _ hx)
      obtain ⟨y, hy, hset⟩ := Bm.bitsL_snoc blocks (used.take k) n hnb
      rw [show used.take k ++ [(n : Int)] = used.take (k + 1) by rw [List.take_add_one, hx]; rfl] at hset
      have hcell := HOR.out.cell (HLEN.out _).symm hy
      have hfree := HOR.out.free (HLEN.out _).symm (n / 8)
      have hW := HOR.out.set (HLEN.out _).symm (n / 8) (y ||| UInt8.ofNat (2 ^ (n % 8)))
      have HSET := Lib.hid hset
      have hlt1 : (k : Int) < (used.length : Int) := by omega
      obtain ⟨q, hq⟩ : ∃ q : Nat, n / 8 = q := ⟨_, rfl⟩
      obtain ⟨r, hr⟩ : ∃ r : Nat, n % 8 = r := ⟨_, rfl⟩
      have hqi : (n : Int) / 8 = (q : Int) := by omega
      have hri : (n : Int) % 8 = (r : Int) := by omega
      have hqb : q < NB := by have := HNB.out; omega
      have hqb2 : (q : Int) < (NB : Int) := by omega
      have hrb : r < 8 := by omega
      have hwq : IntKind.i64.wrap (q : Int) = (q : Int) := by rw [IntKind.wrap_i64]; omega
      have hrt : (n : Int).tmod 8 = (r : Int) := by rw [Int.tmod_eq_emod_of_nonneg (by omega)]; exact hri
      have hwr : IntKind.i64.wrap (r : Int) = (r : Int) := by rw [IntKind.wrap_i64]; omega
      have HRB := Lib.hid (show (r : Int) < 8 by omega)
      rw [hq] at hcell hfree
      rw [← hset, hq, hr] at hW
      have HW := Lib.hid hW
      clear hc1 e q1 q2 hx hy hset hxb hW hq hr HSET
      go_wp2_with fail
      have nc := Near.cell (w := wr.drew) (row := none) hcell (by simp)
      refine wp_region_mix (fun w' => ∃ x : Near wr.drew none, w' = x.world) [10] 11 (by kernel_rfl) rfl ?_
      refine mix_reads_lit [0, 1, 2, 3, 4, 5, 6, 7, 8, 9] 1 (by kernel_rfl) (by kernel_rfl) (by kernel_rfl) (by kernel_rfl) rfl (NearC.of (World.grownBy.refl _ _)) ?_
      simp only [pick, List.filterMap_cons, List.filterMap_nil, List.getElem?_cons_succ, List.getElem?_cons_zero]
      repeat (first | go_big_quiet_step (fail) | quiet_step (fail))
      refine wpQuiet_nil ?_
      refine mix_deed_lit 10 0 (by kernel_rfl) (by kernel_rfl) rfl (fun K hK => ?_)
      simp only [comesUp, List.getElem?_cons_succ, List.getElem?_cons_zero]
      refine if_mk rfl ?_
      go_simp
      refine hK _ _ (fun h => by simp [keeps] at h) ?_
      clear hK K
      refine mix_done_lit (by kernel_rfl) ?_
      go_wp2_with fail
      go_roundw
      case rel =>
        rw [or_spell]
        exact ⟨k + 1, by omega, by go_num, HW.out.below (Below.refl _ _).drew (Nat.le_refl _), grown_trans (grownBy_set HGR.out _ _) (grown_of_below (Below.refl _ _).drew (Nat.le_refl _) _)⟩
      case measure => simp [intOf]; omega
    · have hkk : k = used.length := by omega
      subst hkk
      go_wp2_with fail
      go_ret
      have h := HOR.out
      rw [List.take_length] at h
      exact ⟨⟨_, _, by rw [HLEN.out]; rfl, by rw [HLEN.out]; exact h⟩, HBR.out⟩
end Go.Proofs.YtlobelfnjabajaaDoor
