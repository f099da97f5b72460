/- merged: PageSame, RefPage, CrcRef, RefSeal -/
import Derived.Test.YtflbioiildndoaaGreatDoorQ7
import Derived.Test.YtflbioiildndoaaGreatDoorQ5
import Derived.Test.YtflbioiildndoaaGreatDoorQ4
/- pages: page.Same, and the document's -/
namespace Go.Proofs.YtflbioiildndoaaGreatDoor
open Go.RowKit
set_option linter.unusedVariables false
set_option linter.unusedSimpArgs false

def pageEq (p q : Pg.Page) : Bool := p.kind == q.kind && (p.id == q.id && ((p.gen : Int) == (q.gen : Int) && p.body == q.body))
theorem pageEq_self (p : Pg.Page) : pageEq p p = true := by simp [pageEq]
theorem pageEq_iff {p q : Pg.Page} : pageEq p q = true ↔ p = q := by
  obtain ⟨a, b, c, d⟩ := p
  obtain ⟨a2, b2, c2, d2⟩ := q
  simp [pageEq]
  omega
/-- two pages alike: the four ways through -/
theorem pageEq_ways (p q : Pg.Page) : ((p.kind == q.kind) = false ∧ pageEq p q = false) ∨ ((p.kind == q.kind) = true ∧ (p.id == q.id) = false ∧ pageEq p q = false) ∨
    ((p.kind == q.kind) = true ∧ (p.id == q.id) = true ∧ ((p.gen : Int) == (q.gen : Int)) = false ∧ pageEq p q = false) ∨
    ((p.kind == q.kind) = true ∧ (p.id == q.id) = true ∧ ((p.gen : Int) == (q.gen : Int)) = true ∧ pageEq p q = (p.body == q.body)) := by
  unfold pageEq
  cases p.kind == q.kind <;> cases p.id == q.id <;> cases ((p.gen : Int) == (q.gen : Int)) <;> simp

set_option maxRecDepth 100000 in
set_option maxHeartbeats 2000000 in
theorem refSame_any (p q : Pg.Page) (s1 s2 : Value) (w : World) (h1 : BytesAt w s1 p.body) (h2 : BytesAt w s2 q.body) :
    Calls Tryz.prog 36 #[.agg #[.int .i64 p.kind, .int .i64 p.id, .int .u64 (p.gen : Int), s1], .agg #[.int .i64 q.kind, .int .i64 q.id, .int .u64 (q.gen : Int), s2]] w fun e w' => e = .returned (.bool (pageEq p q)) ∧ Below w.heap.size w w' := by
  have H1 := Lib.hid h1
  have H2 := Lib.hid h2
  have HW := pageEq_ways p q
  clear h1 h2
  obtain ⟨k1, i1, n1, b1⟩ := p
  obtain ⟨k2, i2, n2, b2⟩ := q
  simp only at *
  generalize hR : pageEq ⟨k1, i1, n1, b1⟩ ⟨k2, i2, n2, b2⟩ = R at *
  clear hR
  rcases HW with ⟨c1, rfl⟩ | ⟨c1, c2, rfl⟩ | ⟨c1, c2, c3, rfl⟩ | ⟨c1, c2, c3, rfl⟩
  all_goals
    go_enter Tryz.func36, Tryz.ntmps36
    go_wp2_with (go_at_call 16; (refine (same_any _ _ _ _ _ ((H1.out.alloc _).alloc _) ((H2.out.alloc _).alloc _)).mono ?_); (rintro e w4 ⟨rfl, hb4⟩); (have hbw4 : Below w.heap.size w w4 := (show Below w.heap.size w _ by go_grown).trans (hb4.mono (by simp; omega))))
    go_ret
    exact ⟨rfl, by go_grown⟩
end Go.Proofs.YtflbioiildndoaaGreatDoor

/- pages: the document's Check, put, Seal -/
namespace Go.Proofs.YtflbioiildndoaaGreatDoor
open Go.RowKit
set_option linter.unusedVariables false
set_option linter.unusedSimpArgs false

set_option maxRecDepth 100000 in
set_option maxHeartbeats 2000000 in
theorem refCheck_any (p : Pg.Page) (a : Option Addr) (c : Nat) (size : Int) (w : World) (hsz : -9223372036854775808 ≤ size ∧ size ≤ 9223372036854775807) (hn : p.body.length ≤ 9223372036854775807) :
    Calls Tryz.prog 58 #[.agg #[.int .i64 p.kind, .int .i64 p.id, .int .u64 (p.gen : Int), .slice a p.body.length c], .int .i64 size] w fun e w' => e = .returned (.int .i64 (Pg.checkC p size : Nat)) ∧ Below w.heap.size w w' := by
  obtain ⟨kind, id, gen, body⟩ := p
  simp only at *
  have hcase : (size < 256 ∧ Pg.checkC ⟨kind, id, gen, body⟩ size = 2) ∨ (256 ≤ size ∧ 1024 < size ∧ Pg.checkC ⟨kind, id, gen, body⟩ size = 2) ∨
      ((256 ≤ size ∧ size ≤ 1024) ∧ ((kind < 1 ∧ Pg.checkC ⟨kind, id, gen, body⟩ size = 1) ∨ (1 ≤ kind ∧ 5 < kind ∧ Pg.checkC ⟨kind, id, gen, body⟩ size = 1) ∨ (1 ≤ kind ∧ kind ≤ 5 ∧ id < 0 ∧ Pg.checkC ⟨kind, id, gen, body⟩ size = 1) ∨
      (1 ≤ kind ∧ kind ≤ 5 ∧ 0 ≤ id ∧ 255 < id ∧ Pg.checkC ⟨kind, id, gen, body⟩ size = 1) ∨ (1 ≤ kind ∧ kind ≤ 5 ∧ 0 ≤ id ∧ id ≤ 255 ∧ size - 24 < (body.length : Int) ∧ Pg.checkC ⟨kind, id, gen, body⟩ size = 1) ∨ (1 ≤ kind ∧ kind ≤ 5 ∧ 0 ≤ id ∧ id ≤ 255 ∧ (body.length : Int) ≤ size - 24 ∧ Pg.checkC ⟨kind, id, gen, body⟩ size = 0))) := by
    unfold Pg.checkC Pg.sized
    by_cases h1 : size < 256
    · left; exact ⟨h1, by rw [if_pos (by simp; omega)]⟩
    by_cases h2 : 1024 < size
    · right; left; exact ⟨by omega, h2, by rw [if_pos (by simp; omega)]⟩
    right; right
    refine ⟨by omega, ?_⟩
    rw [if_neg (by simp; omega)]
    simp only
    by_cases h3 : kind < 1
    · left; exact ⟨h3, by rw [if_pos (by omega)]⟩
    by_cases h4 : 5 < kind
    · right; left; exact ⟨by omega, h4, by rw [if_pos (by omega)]⟩
    by_cases h5 : id < 0
    · right; right; left; exact ⟨by omega, by omega, h5, by rw [if_pos (by omega)]⟩
    by_cases h6 : 255 < id
    · right; right; right; left; exact ⟨by omega, by omega, by omega, h6, by rw [if_pos (by omega)]⟩
    by_cases h7 : size - 24 < (body.length : Int)
    · right; right; right; right; left; exact ⟨by omega, by omega, by omega, by omega, h7, by rw [if_pos (by omega)]⟩
    · right; right; right; right; right; exact ⟨by omega, by omega, by omega, by omega, by omega, by rw [if_neg (by omega)]⟩
  generalize Pg.checkC ⟨kind, id, gen, body⟩ size = K at *
  rcases hcase with ⟨h1, rfl⟩ | ⟨h1, h2, rfl⟩ | ⟨⟨h1, h2⟩, ⟨h3, rfl⟩ | ⟨h3, h4, rfl⟩ | ⟨h3, h4, h5, rfl⟩ | ⟨h3, h4, h5, h6, rfl⟩ | ⟨h3, h4, h5, h6, h7, rfl⟩ | ⟨h3, h4, h5, h6, h7, rfl⟩⟩
  all_goals
    go_enter Tryz.func58, Tryz.ntmps58
    go_wp2
    go_ret
    exact ⟨rfl, by go_grown⟩

theorem refPut_is (v : Value) (l m : List UInt8) (n x : Nat) (N X : Int) (w : World) (hN : N = (n : Int)) (hX : X = (x : Int)) (hm : l ++ Fld.le x n = m) (hb : BytesAt w v l) (hx : Fld.right (x : Int) = true) (hn : n < 256 ^ x) (hn64 : n < 18446744073709551616) (hlen : l.length ≤ 140737488351232) :
    Calls Tryz.prog 49 #[v, .int .u64 N, .int .i64 X] w fun e w' => (∃ a c, e = .returned (.slice a m.length c) ∧ Own w' w.heap.size (.slice a m.length c) m) ∧ Below w.heap.size w w' := by
  subst hN hX
  have hp := refPut_ok v l n x w hb hx hn hn64 hlen
  rw [hm] at hp
  have HP := Lib.hid hp
  clear hb hp hm
  go_enter Tryz.func49, Tryz.ntmps49
  go_wp2_with (go_at_call 78; (refine HP.out.mono ?_); (rintro e w2 ⟨hg, hb2⟩); (obtain ⟨a, c, rfl, ho⟩ := hg.seen))
  go_ret
  exact ⟨⟨a, c, rfl, ho⟩, hb2⟩
end Go.Proofs.YtflbioiildndoaaGreatDoor

/- the walks of the document's check sum: step, Entry, More, Sum -/
namespace Go.Proofs.YtflbioiildndoaaGreatDoor
open Go.RowKit

theorem low_bit (q : BitVec 32) : q.getLsbD 0 = decide (q.toNat % 2 = 1) := by rw [BitVec.getLsbD, Nat.testBit_zero]
theorem half (q : BitVec 32) : ((q.toNat : Int) / (2 : Int)) = ((q >>> 1).toNat : Int) := by
  rw [BitVec.toNat_ushiftRight, Nat.shiftRight_eq_div_pow]; omega
theorem xor_one_shift (q : BitVec 32) (b : Bool) : (q ^^^ Crc.one b) >>> 1 = q >>> 1 := by
  have : Crc.one b >>> 1 = 0#32 := by cases b <;> rfl
  rw [BitVec.ushiftRight_xor_distrib, this, BitVec.xor_zero]
theorem xor_one_low (q : BitVec 32) (b : Bool) : (q ^^^ Crc.one b).getLsbD 0 = (q.getLsbD 0 ^^ b) := by
  rw [BitVec.getLsbD_xor]; cases b <;> simp [Crc.one]
theorem step_ne (q : BitVec 32) (b : Bool) (h : q.getLsbD 0 ≠ b) : bits .xor .u32 ((q.toNat : Int) / 2) 3988292384 = ((Crc.stepBit q b).toNat : Int) := by
  rw [half]
  have := bits_xor_u32 (q >>> 1) Crc.poly
  have hp : ((Crc.poly.toNat : Nat) : Int) = 3988292384 := rfl
  rw [hp] at this
  rw [this]
  unfold Crc.stepBit Crc.st
  rw [xor_one_shift, xor_one_low, if_pos (by revert h; cases q.getLsbD 0 <;> cases b <;> simp)]
theorem step_eq (q : BitVec 32) (b : Bool) (h : q.getLsbD 0 = b) : ((q.toNat : Int) / 2) = ((Crc.stepBit q b).toNat : Int) := by
  rw [half]
  unfold Crc.stepBit Crc.st
  rw [xor_one_shift, xor_one_low, if_neg (by rw [h]; simp), BitVec.xor_zero]

theorem step_any (q : BitVec 32) (b : Bool) (z : Int) (hz : z = if b then 1 else 0) (w : World) :
    Calls Tryz.prog 91 #[.int .u32 (q.toNat : Int), .int .u32 z] w fun e w' => e = .returned (.int .u32 ((Crc.stepBit q b).toNat : Int)) ∧ w = w' := by
  subst hz
  have hq := low_bit q
  by_cases h : q.getLsbD 0 = b
  · have ht : (((q.toNat : Int) % 2) != (if b then (1 : Int) else 0)) = false := by
      rw [← h, hq]; by_cases hm : q.toNat % 2 = 1 <;> simp [hm] <;> omega
    have hs := step_eq q b h
    clear hq h
    generalize (if b then (1 : Int) else 0) = z at *
    have HS := Lib.hid hs
    clear hs
    go_enter Tryz.func91, Tryz.ntmps91
    go_wp2
    go_ret
    exact ⟨ret_u32 HS.out, rfl⟩
  · have ht : (((q.toNat : Int) % 2) != (if b then (1 : Int) else 0)) = true := by
      revert h; rw [hq]; by_cases hm : q.toNat % 2 = 1 <;> cases b <;> simp [hm] <;> omega
    have hs := step_ne q b h
    clear hq h
    generalize (if b then (1 : Int) else 0) = z at *
    have HS := Lib.hid hs
    clear hs
    go_enter Tryz.func91, Tryz.ntmps91
    go_wp2
    go_ret
    exact ⟨ret_u32 HS.out, rfl⟩

theorem stepBit_false (q : BitVec 32) : Crc.stepBit q false = Crc.st q := by simp [Crc.stepBit, Crc.one]

/-- a byte's bits that are still to come, as a number -/
def byteRest (x : UInt8) (k : Nat) : Int := ((x.toNat / 2 ^ k : Nat) : Int)
theorem byteRest_bd (x : UInt8) (k : Nat) : 0 ≤ byteRest x k ∧ byteRest x k ≤ 255 := by
  have h1 := Nat.div_le_self x.toNat (2 ^ k)
  have h2 := x.toNat_lt
  unfold byteRest
  generalize x.toNat / 2 ^ k = n at *
  omega
theorem byteRest_zero (x : UInt8) : byteRest x 0 = (x.toNat : Int) := by simp [byteRest]
theorem byteRest_bit (x : UInt8) (k : Nat) : byteRest x k % 2 = if x.toBitVec.getLsbD k then 1 else 0 := by
  have : x.toBitVec.getLsbD k = decide (x.toNat / 2 ^ k % 2 = 1) := by
    rw [BitVec.getLsbD, Nat.testBit_eq_decide_div_mod_eq]; rfl
  rw [this]
  unfold byteRest
  generalize x.toNat / 2 ^ k = n
  by_cases h : n % 2 = 1 <;> simp [h] <;> omega
theorem byteRest_next (x : UInt8) (k : Nat) : byteRest x k / 2 = byteRest x (k + 1) := by
  unfold byteRest
  rw [Nat.pow_succ, ← Nat.div_div_eq_div_mul]; omega
theorem fold_take {r : BitVec 32} {l : List Bool} {k : Nat} {x : Bool} (h : l[k]? = some x) : Crc.fold r (l.take (k + 1)) = Crc.stepBit (Crc.fold r (l.take k)) x := by
  rw [List.take_add_one, h]
  simp [Crc.fold]

set_option maxHeartbeats 1000000 in
theorem refMore_any (s : BitVec 32) (v : Value) (l : List UInt8) (w : World) (hb : BytesAt w v l) :
    Calls Tryz.prog 79 #[.int .u32 (s.toNat : Int), v] w fun e w' => e = .returned (.int .u32 ((Crc.more s l).toNat : Int)) ∧ w = w' := by
  obtain ⟨a, c, rfl, hlc, hcm, hl⟩ := hb
  unfold maxLen at hcm
  have hs := s.isLt
  have HL : Hid (l = [] ∨ ∃ b o, a = some ⟨b, o, none⟩ ∧ ∀ i x, l[i]? = some x → w.cell? ⟨b, o + i, none⟩ = some (.int .u8 (x.toNat : Int))) := hl
  clear hl
  go_enter Tryz.func79, Tryz.ntmps79
  go_wp2
  go_loop [5, 6] (fun r i => ∃ k : Nat, k ≤ l.length ∧ i = .int .i64 k ∧ r = .int .u32 ((Crc.run (~~~s) (l.take k)).toNat : Int)) (fun _ i => l.length - (intOf i).toNat)
  case atStart => exact ⟨0, by omega, rfl, by show _ = Value.int .u32 ((~~~s).toNat : Int); congr 1; rw [BitVec.toNat_not]; omega⟩
  case round =>
    obtain ⟨k, hk, rfl, rfl⟩ := hrel
    by_cases hlt : k < l.length
    · obtain ⟨x, hx⟩ := getElem?_some_of_lt hlt
      rcases HL.out with hn | ⟨b, o, rfl, hc⟩
      · rw [hn] at hlt; simp at hlt
      have hcx := hc k x hx
      have HX : Hid (l[k]? = some x) := hx
      clear hc hx
      generalize hr : Crc.run (~~~s) (l.take k) = r
      have HR : Hid (Crc.run (~~~s) (l.take k) = r) := hr
      clear hr
      have hxl := x.toNat_lt
      go_wp2
      go_loop [5, 7, 8] (fun r' y j => ∃ m : Nat, m ≤ 8 ∧ j = .int .i64 m ∧ y = .int .u32 (byteRest x m) ∧ r' = .int .u32 ((Crc.fold r ((Crc.byteBits x).take m)).toNat : Int)) (fun _ _ j => 8 - (intOf j).toNat)
      case atStart => exact ⟨0, by omega, rfl, by rw [byteRest_zero], by rfl⟩
      case round =>
        obtain ⟨m, hm, rfl, rfl, rfl⟩ := hrel
        by_cases hlt2 : m < 8
        · have hbit := Crc.byteBits_get x m hlt2
          have HB : Hid ((Crc.byteBits x)[m]? = some (x.toBitVec.getLsbD m)) := hbit
          clear hbit
          generalize hf : Crc.fold r ((Crc.byteBits x).take m) = f
          have HF : Hid (Crc.fold r ((Crc.byteBits x).take m) = f) := hf
          clear hf
          have hbd := byteRest_bd x m
          go_wp2_with (go_at_call 91; refine (step_any f (x.toBitVec.getLsbD m) _ (byteRest_bit x m) _).mono ?_; rintro e w' ⟨rfl, rfl⟩)
          go_round
          case rel => exact ⟨m + 1, by omega, by go_num, by rw [byteRest_next], by rw [fold_take HB.out, HF.out]; rfl⟩
          case measure => simp [intOf]; omega
        · have hm8 : m = 8 := by omega
          subst hm8
          go_wp2
          go_round
          case rel => exact ⟨k + 1, by omega, by go_num, by
            rw [run_take HX.out, HR.out, ← Crc.fold_byte]
            rw [List.take_of_length_le (by rw [Crc.byteBits_length]; omega)]⟩
          case measure => simp [intOf]; omega
    · have hk2 : k = l.length := by omega
      subst hk2
      go_wp2
      go_ret
      exact ⟨ret_u32 (by
        have := (Crc.run (~~~s) l).isLt
        unfold Crc.more
        rw [BitVec.toNat_not]
        omega), rfl⟩

theorem refSum_any (v : Value) (l : List UInt8) (w : World) (hb : BytesAt w v l) :
    Calls Tryz.prog 50 #[v] w fun e w' => e = .returned (.int .u32 ((Crc.sum l).toNat : Int)) ∧ w = w' := by
  go_enter Tryz.func50, Tryz.ntmps50
  go_wp2_with (go_at_call 79; refine (refMore_any 0#32 v l _ hb).mono ?_; rintro e w' ⟨rfl, rfl⟩)
  go_ret
  exact ⟨rfl, rfl⟩
end Go.Proofs.YtflbioiildndoaaGreatDoor

/- pages: the document's Seal -/
namespace Go.Proofs.YtflbioiildndoaaGreatDoor
open Go.RowKit
set_option linter.unusedVariables false
set_option linter.unusedSimpArgs false

def lenOf : Value → Nat
  | .slice _ n _ => n
  | _ => 0
set_option maxRecDepth 100000 in
set_option maxHeartbeats 4000000 in
theorem refSeal_ok (p : Pg.Page) (a : Option Addr) (c : Nat) (size : Nat) (w : World) (hb : BytesAt w (.slice a p.body.length c) p.body) (h : Pg.checkC p size = 0) (hg : p.gen < 18446744073709551616) :
    Calls Tryz.prog 27 #[.agg #[.int .i64 p.kind, .int .i64 p.id, .int .u64 (p.gen : Int), .slice a p.body.length c], .int .i64 (size : Int)] w fun e w' => (∃ a c, e = .returned (.slice a (Pg.sealL p size).length c) ∧ Own w' w.heap.size (.slice a (Pg.sealL p size).length c) (Pg.sealL p size)) ∧ Below w.heap.size w w' := by
  obtain ⟨h1, h2, h3, h4⟩ := Pg.check_ok h
  have HB := Lib.hid hb
  have hc : p.body.length ≤ c ∧ c ≤ maxLen := by
    obtain ⟨a', c', e, q1, q2, _⟩ := hb
    simp only [Value.slice.injEq] at e
    obtain ⟨_, _, rfl⟩ := e
    exact ⟨q1, q2⟩
  clear hb h
  obtain ⟨kind, id, gen, body⟩ := p
  simp only at *
  obtain ⟨kn, rfl⟩ : ∃ kn : Nat, kind = kn := ⟨kind.toNat, by omega⟩
  obtain ⟨idn, rfl⟩ : ∃ idn : Nat, id = idn := ⟨id.toNat, by omega⟩
  go_enter Tryz.func27, Tryz.ntmps27
  go_wp2_with fail
  generalize hW : w.alloc (.cells #[.int .i64 kn, .int .i64 idn, .int .u64 gen, .slice a body.length c] 72) = W
  have hX : Box4 W w.heap.size (.int .i64 kn) (.int .i64 idn) (.int .u64 gen) (.slice a body.length c) := by rw [← hW]; exact Box4.new _ _ _ _ _ _
  have hWs : W.heap.size = w.heap.size + 1 := by rw [← hW]; simp
  have hWb : Below w.heap.size w W := by rw [← hW]; go_grown
  have HW := Lib.hid hW
  clear hW
  have n0 := Near.cell (w := W.drew) (row := none) hX.c0 (by simp)
  have n1 := Near.cell (w := W.drew) (row := none) hX.c1 (by simp)
  have n2 := Near.cell (w := W.drew) (row := none) hX.c2 (by simp)
  have n3 := Near.cell (w := W.drew) (row := none) hX.c3 (by simp)
  refine wp_region_mix (fun w' => ∃ x : Near W.drew none, w' = x.world) [] 19 (by kernel_rfl) rfl ?_
  refine mix_reads_lit [1, 2, 3, 6, 7, 8, 9, 11, 12, 13, 15, 16] 7 (by kernel_rfl) (by kernel_rfl) (by kernel_rfl) (by kernel_rfl) rfl (NearC.of (World.grownBy.refl _ _)) ?_
  simp only [pick, List.filterMap_cons, List.filterMap_nil, List.getElem?_cons_succ, List.getElem?_cons_zero]
  repeat (first | go_big_quiet_step (fail) | quiet_step (fail))
  refine wpQuiet_nil ?_
  refine mix_deed_lit 0 6 (by kernel_rfl) (by kernel_rfl) rfl (fun K hK => ?_)
  simp only [comesUp, List.getElem?_cons_succ, List.getElem?_cons_zero]
  refine if_mk rfl ?_
  go_simp
  have e0 : Own (W.alloc (.cells #[] 5)).drew w.heap.size (.slice (some ⟨w.heap.size + 1, 0, none⟩) 0 0) [] := by
    have := Own.empty W.drew w.heap.size (by show w.heap.size ≤ W.heap.size; omega)
    rw [show W.drew.heap.size = w.heap.size + 1 from hWs] at this
    exact this
  have gb0 : W.drew.grownBy (W.alloc (.cells #[] 5)).drew none := grown_alloc W.drew none (.cells #[] 5)
  refine hK _ _ (fun _ _ => NearC.of gb0) ?_
  clear hK K
  obtain ⟨m1, hm1⟩ : ∃ m, ([] : List UInt8) ++ Fld.le 1 kn = m := ⟨_, rfl⟩
  obtain ⟨m2, hm2⟩ : ∃ m, m1 ++ Fld.le 1 0 = m := ⟨_, rfl⟩
  obtain ⟨m3, hm3⟩ : ∃ m, m2 ++ Fld.le 2 body.length = m := ⟨_, rfl⟩
  obtain ⟨m4, hm4⟩ : ∃ m, m3 ++ Fld.le 4 idn = m := ⟨_, rfl⟩
  obtain ⟨m5, hm5⟩ : ∃ m, m4 ++ Fld.le 8 gen = m := ⟨_, rfl⟩
  have HL1 := Lib.hid (show m1.length = 1 by rw [← hm1]; simp [Fld.le_length])
  have HL2 := Lib.hid (show m2.length = 2 by rw [← hm2]; simp [Fld.le_length, HL1.out])
  have HL3 := Lib.hid (show m3.length = 4 by rw [← hm3]; simp [Fld.le_length, HL2.out])
  have HL4 := Lib.hid (show m4.length = 8 by rw [← hm4]; simp [Fld.le_length, HL3.out])
  have HL5 := Lib.hid (show m5.length = 16 by rw [← hm5]; simp [Fld.le_length, HL4.out])
  refine mix_deed_lit 4 5 (by kernel_rfl) (by kernel_rfl) rfl (fun K hK => ?_)
  simp only [comesUp, List.getElem?_cons_succ, List.getElem?_cons_zero]
  refine if_mk rfl ?_
  go_simp
  refine (refPut_is _ [] m1 kn 1 (IntKind.u64.wrap (kn : Int)) 1 _ ((IntKind.wrap_u64 _).trans (by omega)) rfl hm1 e0.bytes (by decide) (by omega) (by omega) (by simp)).mono ?_
  rintro e w1 ⟨⟨a1, c1, rfl, ho1⟩, hb1⟩
  have gb1 : W.drew.grownBy w1 none := grown_trans gb0 (grown_of_below hb1 (Nat.le_refl _) _)
  have hs1 := hb1.size
  refine hK _ _ (fun _ _ => NearC.of gb1) ?_
  clear hK K
  refine mix_deed_lit 5 4 (by kernel_rfl) (by kernel_rfl) rfl (fun K hK => ?_)
  simp only [comesUp, List.getElem?_cons_succ, List.getElem?_cons_zero]
  refine if_mk rfl ?_
  go_simp
  refine (refPut_is _ m1 m2 0 1 0 1 _ rfl rfl hm2 ho1.bytes (by decide) (by omega) (by omega) (by have := HL1.out; omega)).mono ?_
  rintro e w2 ⟨⟨a2, c2, rfl, ho2⟩, hb2⟩
  have gb2 : W.drew.grownBy w2 none := grown_trans gb1 (grown_of_below hb2 (Nat.le_refl _) _)
  have hs2 := hb2.size
  refine hK _ _ (fun _ _ => NearC.of gb2) ?_
  clear hK K
  refine mix_deed_lit 10 3 (by kernel_rfl) (by kernel_rfl) rfl (fun K hK => ?_)
  simp only [comesUp, List.getElem?_cons_succ, List.getElem?_cons_zero]
  refine if_mk rfl ?_
  go_simp
  refine (refPut_is _ m2 m3 body.length 2 (IntKind.u64.wrap (body.length : Int)) 2 _ ((IntKind.wrap_u64 _).trans (by omega)) rfl hm3 ho2.bytes (by decide) (by omega) (by omega) (by have := HL2.out; omega)).mono ?_
  rintro e w3 ⟨⟨a3, c3, rfl, ho3⟩, hb3⟩
  have gb3 : W.drew.grownBy w3 none := grown_trans gb2 (grown_of_below hb3 (Nat.le_refl _) _)
  have hs3 := hb3.size
  refine hK _ _ (fun _ _ => NearC.of gb3) ?_
  clear hK K
  refine mix_deed_lit 14 2 (by kernel_rfl) (by kernel_rfl) rfl (fun K hK => ?_)
  simp only [comesUp, List.getElem?_cons_succ, List.getElem?_cons_zero]
  refine if_mk rfl ?_
  go_simp
  refine (refPut_is _ m3 m4 idn 4 (IntKind.u64.wrap (idn : Int)) 4 _ ((IntKind.wrap_u64 _).trans (by omega)) rfl hm4 ho3.bytes (by decide) (by omega) (by omega) (by have := HL3.out; omega)).mono ?_
  rintro e w4 ⟨⟨a4, c4, rfl, ho4⟩, hb4⟩
  have gb4 : W.drew.grownBy w4 none := grown_trans gb3 (grown_of_below hb4 (Nat.le_refl _) _)
  have hs4 := hb4.size
  refine hK _ _ (fun _ _ => NearC.of gb4) ?_
  clear hK K
  refine mix_deed_lit 17 1 (by kernel_rfl) (by kernel_rfl) rfl (fun K hK => ?_)
  simp only [comesUp, List.getElem?_cons_succ, List.getElem?_cons_zero]
  refine if_mk rfl ?_
  go_simp
  refine (refPut_is _ m4 m5 gen 8 (gen : Int) 8 _ rfl rfl hm5 ho4.bytes (by decide) (by omega) (by omega) (by have := HL4.out; omega)).mono ?_
  rintro e w5 ⟨⟨a5, c5, rfl, ho5⟩, hb5⟩
  have gb5 : W.drew.grownBy w5 none := grown_trans gb4 (grown_of_below hb5 (Nat.le_refl _) _)
  have hs5 := hb5.size
  refine hK _ _ (fun _ _ => NearC.of gb5) ?_
  clear hK K
  refine mix_flat_lit [18] 0 (by kernel_rfl) (by kernel_rfl) (by kernel_rfl) (by kernel_rfl) rfl ?_
  simp only [pick, List.filterMap_cons, List.filterMap_nil, List.getElem?_cons_succ, List.getElem?_cons_zero]
  repeat (first | go_big_quiet_step (fail) | quiet_step (fail))
  refine wpQuiet_nil ?_
  refine mix_done_lit (by kernel_rfl) ?_
  have n5 := grown_cell gb5 hX.c3 (by simp)
  have hs6 := gb5.size
  have hs7 : w.heap.size + 1 ≤ w5.heap.size := by rw [← hWs]; exact hs6
  have b5 : Below w.heap.size w w5 := hWb.drew.trans ((grown_below gb5 (by simp) (Nat.le_refl _)).mono (by show w.heap.size ≤ W.heap.size; omega))
  have HO5 := Lib.hid ho5
  have HB5 := Lib.hid b5
  clear n0 n1 n2 n3 gb0 gb1 gb2 gb3 gb4 hb1 hb2 hb3 hb4 hb5 ho1 ho2 ho3 ho4 ho5 e0 gb5 hX hWb b5 hs1 hs2 hs3 hs4 hs5 hs6 hWs HW
  go_wp2_with fail
  have q3 := Near.cell (w := w5.drew) (row := none) n5 (by simp)
  refine wp_region_mix (fun w' => ∃ x : Near w5.drew none, w' = x.world) [] 6 (by kernel_rfl) rfl ?_
  refine mix_reads_lit [0, 2, 3] 3 (by kernel_rfl) (by kernel_rfl) (by kernel_rfl) (by kernel_rfl) rfl (NearC.of (World.grownBy.refl _ _)) ?_
  simp only [pick, List.filterMap_cons, List.filterMap_nil, List.getElem?_cons_succ, List.getElem?_cons_zero]
  repeat (first | go_big_quiet_step (fail) | quiet_step (fail))
  refine wpQuiet_nil ?_
  obtain ⟨m6, hm6⟩ : ∃ m, m5 ++ Fld.le 4 0 = m := ⟨_, rfl⟩
  have HL6 := Lib.hid (show m6.length = 20 by rw [← hm6]; simp [Fld.le_length, HL5.out])
  refine mix_deed_lit 1 2 (by kernel_rfl) (by kernel_rfl) rfl (fun K hK => ?_)
  simp only [comesUp, List.getElem?_cons_succ, List.getElem?_cons_zero]
  refine if_mk rfl ?_
  go_simp
  refine (refPut_is _ m5 m6 0 4 0 4 _ rfl rfl hm6 (HO5.out.bytes.below (Below.refl _ _).drew) (by decide) (by omega) (by omega) (by have := HL5.out; omega)).mono ?_
  rintro e w6 ⟨⟨a6, c6, rfl, ho6⟩, hb6⟩
  refine hK _ _ (fun _ _ => NearC.of (grown_of_below hb6 (Nat.le_refl _) _)) ?_
  clear hK K
  refine mix_deed_lit 4 1 (by kernel_rfl) (by kernel_rfl) rfl (fun K hK => ?_)
  simp only [comesUp, List.getElem?_cons_succ, List.getElem?_cons_zero]
  refine if_mk rfl ?_
  refine step_append_bytes (.tmp 26) (.tmp 28) rfl w5.drew.heap.size _ m6 rfl ho6 _ body rfl (HB.out.below (HB5.out.drew.trans (hb6.mono (by show w.heap.size ≤ w5.heap.size; omega)))) (by have := HL6.out; omega) hb6.size ?_
  intro v7 w7 ho7 hg7
  have hb7 := hb6.grown hg7 hb6.size (fun k hk => (ho6.lt k hk).1)
  refine hK _ _ (fun _ _ => NearC.of (grown_of_below hb7 (Nat.le_refl _) _)) ?_
  clear hK K
  refine mix_flat_lit [5] 0 (by kernel_rfl) (by kernel_rfl) (by kernel_rfl) (by kernel_rfl) rfl ?_
  simp only [pick, List.filterMap_cons, List.filterMap_nil, List.getElem?_cons_succ, List.getElem?_cons_zero]
  repeat (first | go_big_quiet_step (fail) | quiet_step (fail))
  refine wpQuiet_nil ?_
  refine mix_done_lit (by kernel_rfl) ?_
  have HO7 := Lib.hid (ho7.mono (show w.heap.size ≤ w5.drew.heap.size by show w.heap.size ≤ w5.heap.size; omega))
  have HB7 := Lib.hid (HB5.out.drew.trans (hb7.mono (by show w.heap.size ≤ w5.heap.size; omega)))
  have hbare : ∀ j, j = size - 24 - body.length → m6 ++ body ++ Pg.pad j = Pg.bare ⟨kn, idn, gen, body⟩ size := by
    intro j hj
    subst hj
    unfold Pg.bare Pg.headL
    rw [← hm6, ← hm5, ← hm4, ← hm3, ← hm2, ← hm1]
    simp
  have HBARE := Lib.hid hbare
  clear ho7 hb7 hg7 hb6 ho6 n5 q3 hm1 hm2 hm3 hm4 hm5 hm6 hbare HL1 HL2 HL3 HL4 HL5 HO5 HB5
  have hsz : 24 + body.length ≤ size := by omega
  go_wp2_with fail
  go_loopw [6] (fun v wr => ∃ j : Nat, 24 + body.length + j ≤ size ∧ Own wr w.heap.size v (m6 ++ body ++ Pg.pad j) ∧ Below w.heap.size w wr) (fun v _ => size - lenOf v)
  case atStart => exact ⟨0, by omega, by simpa [Pg.pad] using HO7.out, HB7.out⟩
  case round =>
    obtain ⟨j, hj, ho, hbr⟩ := hrel
    have hs := hbr.size
    have hlen : (m6 ++ body ++ Pg.pad j).length = 20 + body.length + j := by simp [HL6.out, Pg.pad]; omega
    obtain ⟨a8, c8, hv8, -, -⟩ := ho.slice
    subst hv8
    rw [hlen] at ho ⊢
    have HO8 := Lib.hid ho
    clear ho
    by_cases hlt : 24 + body.length + j < size
    · have HZ := Lib.hid (one_byte wr 0 0 rfl 5)
      have hll : (m6 ++ body ++ Pg.pad j).length + 1 ≤ 140737488355328 := by omega
      go_wp2_with (at_builtin; refine wpList_append_bytes rfl (.tmp 35) (.tmp 36) rfl w.heap.size _ (m6 ++ body ++ Pg.pad j) rfl (HO8.out.alloc _) _ [0] rfl HZ.out hll (by simp; omega) ?_)
      intro v9 w9 ho9 hg9 _
      have hb9 := (hbr.alloc hs (.cells #[.int .u8 0] 5)).grown hg9 (by simp; omega) (fun k hk => (HO8.out.lt k hk).1)
      rw [show m6 ++ (body ++ (Pg.pad j ++ [0])) = m6 ++ body ++ Pg.pad (j + 1) by unfold Pg.pad; rw [List.replicate_succ', List.append_assoc]] at ho9
      obtain ⟨a9, c9, hv9, -, -⟩ := ho9.slice
      have hlen9 : (m6 ++ body ++ Pg.pad (j + 1)).length = 21 + body.length + j := by simp [HL6.out, Pg.pad]; omega
      rw [hlen9] at hv9
      subst hv9
      have HO9 := Lib.hid ho9
      clear ho9 hg9 hlen hlen9 hll
      go_wp2
      go_roundw
      case rel => exact ⟨j + 1, by omega, HO9.out, hb9⟩
      case measure => simp [lenOf]; omega
    · have hjj : j = size - 24 - body.length := by omega
      have hbl : Pg.bare ⟨kn, idn, gen, body⟩ size = m6 ++ body ++ Pg.pad j := (HBARE.out j hjj).symm
      have HS := Lib.hid (show Pg.sealL ⟨kn, idn, gen, body⟩ size = m6 ++ body ++ Pg.pad j ++ Fld.le 4 (Crc.sum (m6 ++ body ++ Pg.pad j)).toNat by unfold Pg.sealL; rw [hbl])
      clear hbl hjj
      generalize m6 ++ body ++ Pg.pad j = bl at *
      have hcl := (Crc.sum bl).isLt
      generalize hms : Pg.sealL ⟨kn, idn, gen, body⟩ size = ms at *
      have HM := Lib.hid HS.out.symm
      have HMS := Lib.hid hms
      clear hms HS HBARE
      go_wp2_with (first
        | (go_at_call 50; (refine (refSum_any _ bl _ HO8.out.bytes).mono ?_); (rintro e w4 ⟨rfl, rfl⟩))
        | (go_at_call 49; (refine (refPut_is _ bl ms (Crc.sum bl).toNat 4 _ 4 _ rfl rfl HM.out HO8.out.bytes (by decide) hcl (by omega) (by omega)).mono ?_); (rintro e w5 ⟨⟨a10, c10, rfl, ho10⟩, hb10⟩)))
      go_ret
      rw [HMS.out]
      exact ⟨⟨a10, c10, rfl, ho10.mono hs⟩, hbr.trans (hb10.mono hs)⟩
end Go.Proofs.YtflbioiildndoaaGreatDoor
