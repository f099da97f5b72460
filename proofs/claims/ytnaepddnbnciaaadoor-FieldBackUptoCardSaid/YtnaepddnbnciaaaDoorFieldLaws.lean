/- the walks of layer 3's awake and its laws -/
import Derived.Test.YtnaepddnbnciaaaDoorFieldAll
import Derived.Test.YtnaepddnbnciaaaDoorTells03
namespace Go.Proofs.YtnaepddnbnciaaaDoor
open Go.RowKit

/-- bytes that a literal lays in a block of its own -/
theorem bytes_new (w : World) (l : List UInt8) (t : TypeId) (fz : Nat × Nat) (n : Nat) (hn : n = l.length) (h : l.length ≤ 1000) : BytesAt (w.alloc (.cells (l.map fun x => Value.int .u8 (x.toNat : Int)).toArray t fz)) (.slice (some ⟨w.heap.size, 0, none⟩) n n) l := by
  subst hn
  refine ⟨_, _, rfl, Nat.le_refl _, by unfold maxLen; omega, .inr ⟨w.heap.size, 0, rfl, fun i x hx => ?_⟩⟩
  rw [cell_of_row _ w.heap.size (0 + i) _ t fz (heap_alloc_new w _)]
  simp [hx]

theorem fieldAwake_any (w : World) : Calls Tryd.prog 11 #[] w fun e w' => e = .returned (.bool true) ∧ Below w.heap.size w w' := by
  have ho : orderL 1 = [0, 0, 0, 0, 0, 0, 0, 1] := by decide
  have HO := Lib.hid ho
  have hl : ([] : List UInt8) ++ Fld.le 2 258 = [2, 1] := by decide
  have HL := Lib.hid hl
  clear ho hl
  go_enter Tryd.func11, Tryd.ntmps11
  go_wp2_with fail
  refine (put_ok _ [] 258 2 _ (BytesAt.nil w) rfl (by decide) (by decide) (by simp)).mono ?_
  rintro e w1 ⟨⟨v1, rfl, hown⟩, hb1⟩
  rw [HL.out] at hown
  have HN := Lib.hid hown
  clear hown
  have hlit := bytes_new w1 [2, 1] 5 (0, 0) 2 rfl (by decide)
  simp only [List.map_cons, List.map_nil] at hlit
  have HT := Lib.hid hlit
  have HB := Lib.hid (HN.out.bytes.alloc (.cells #[.int .u8 2, .int .u8 1] 5))
  clear hlit
  have hsz := hb1.size
  go_wp2_with fail
  refine (same_any _ _ [2, 1] [2, 1] _ HB.out HT.out).mono ?_
  rintro e w2 ⟨rfl, hb2⟩
  have hb3 := (hb1.alloc hsz (.cells #[.int .u8 2, .int .u8 1] 5)).trans (hb2.mono (by simp; omega))
  go_wp2_with fail
  refine (order_any 1 _).mono ?_
  rintro e w3 ⟨rfl, hb4⟩
  rw [HO.out]
  go_wp2
  go_ret
  exact ⟨rfl, hb3.trans (hb4.mono hb3.size)⟩

theorem le_mod (k n : Nat) : Fld.le k n = Fld.le k (n % 256 ^ k) := by
  induction k generalizing n with
  | zero => rfl
  | succ k ih =>
    simp only [Fld.le]
    congr 1
    · apply UInt8.toNat_inj.1
      rw [UInt8.toNat_ofNat', UInt8.toNat_ofNat']
      show n % 256 = n % 256 ^ (k + 1) % 256
      rw [Nat.pow_succ, Nat.mul_comm (256 ^ k) 256, Nat.mod_mul_right_mod]
    · rw [ih, ih (n % 256 ^ (k + 1) / 256)]
      congr 1
      rw [Nat.pow_succ, Nat.mul_comm (256 ^ k) 256, Nat.mod_mul_right_div_self, Nat.mod_mod]
theorem less_le (k : Nat) : ∀ a b : Nat, a < 256 ^ k → b < 256 ^ k → Op.bytesLess (Fld.le k a).reverse (Fld.le k b).reverse = decide (a < b) := by
  induction k with
  | zero =>
    intro a b ha hb
    simp at ha hb
    subst ha hb
    rfl
  | succ k ih =>
    intro a b ha hb
    have hp : 0 < 256 ^ k := Nat.pow_pos (by omega)
    rw [Fld.le_snoc, Fld.le_snoc, List.reverse_append, List.reverse_append, le_mod k a, le_mod k b]
    simp only [List.reverse_cons, List.reverse_nil, List.nil_append, List.cons_append, Op.bytesLess]
    rw [ih _ _ (Nat.mod_lt _ hp) (Nat.mod_lt _ hp)]
    have h1 : a / 256 ^ k < 256 := by rw [Nat.div_lt_iff_lt_mul hp, Nat.mul_comm, ← Nat.pow_succ]; exact ha
    have h2 : b / 256 ^ k < 256 := by rw [Nat.div_lt_iff_lt_mul hp, Nat.mul_comm, ← Nat.pow_succ]; exact hb
    have ea := Nat.div_add_mod a (256 ^ k)
    have eb := Nat.div_add_mod b (256 ^ k)
    have la := Nat.mod_lt a hp
    have lb := Nat.mod_lt b hp
    generalize a / 256 ^ k = x at *
    generalize b / 256 ^ k = y at *
    generalize a % 256 ^ k = u at *
    generalize b % 256 ^ k = v at *
    generalize 256 ^ k = P at *
    have e1 : (UInt8.ofNat x < UInt8.ofNat y) ↔ x < y := by
      rw [UInt8.lt_iff_toNat_lt, UInt8.toNat_ofNat', UInt8.toNat_ofNat']; omega
    have e2 : (UInt8.ofNat x = UInt8.ofNat y) ↔ x = y := by
      rw [← UInt8.toNat_inj, UInt8.toNat_ofNat', UInt8.toNat_ofNat']; omega
    rw [Bool.eq_iff_iff]
    simp only [Bool.or_eq_true, Bool.and_eq_true, decide_eq_true_eq, beq_iff_eq, e1, e2]
    rcases Nat.lt_trichotomy x y with h | h | h
    · have : P * (x + 1) ≤ P * y := Nat.mul_le_mul_left _ h
      rw [Nat.mul_add] at this
      constructor
      · intro _; omega
      · intro _; exact .inl h
    · subst h
      constructor
      · rintro (h | ⟨_, h⟩)
        · omega
        · omega
      · intro _; exact .inr ⟨rfl, by omega⟩
    · have : P * (y + 1) ≤ P * x := Nat.mul_le_mul_left _ h
      rw [Nat.mul_add] at this
      constructor
      · rintro (h | ⟨h, _⟩) <;> omega
      · intro _; omega
theorem less_order (a b : Nat) (ha : a < 18446744073709551616) (hb : b < 18446744073709551616) : Op.bytesLess (orderL a) (orderL b) = decide (a < b) := less_le 8 a b ha hb

theorem fieldOrders_walk (a b : Nat) (ha : a < 18446744073709551616) (hb : b < 18446744073709551616) (w : World) :
    Calls Tryd.prog 3 #[.int .u64 (a : Int), .int .u64 (b : Int)] w fun e w' => e = .returned (.bool true) ∧ Below w.heap.size w w' := by
  have hl := less_order a b ha hb
  generalize hA : orderL a = la at hl
  generalize hB : orderL b = lb at hl
  have HA := Lib.hid hA
  have HB := Lib.hid hB
  clear hA hB
  go_enter Tryd.func3, Tryd.ntmps3
  go_wp2_with fail
  refine (order_any a _).mono ?_
  rintro e w1 ⟨rfl, hb1⟩
  rw [HA.out]
  go_wp2_with fail
  refine (refOrder_any a ha _).mono ?_
  rintro e w2 ⟨rfl, hb2⟩
  rw [HA.out]
  go_wp2_with fail
  refine (order_any a _).mono ?_
  rintro e w3 ⟨rfl, hb3⟩
  rw [HA.out]
  go_wp2_with fail
  refine (order_any b _).mono ?_
  rintro e w4 ⟨rfl, hb4⟩
  rw [HB.out]
  go_wp2_with (go_at_call 11; refine (fieldAwake_any _).mono ?_; rintro e w5 ⟨rfl, hb5⟩)
  go_ret
  exact ⟨rfl, below_step (below_step (below_step (below_step hb1 hb2) hb3) hb4) hb5⟩

theorem unle_le8 (n : Nat) (h : n < 18446744073709551616) : Fld.unle (Fld.le 8 n) = n := Fld.unle_le 8 n h
set_option maxRecDepth 100000 in
set_option maxHeartbeats 1000000 in
theorem fieldBack_walk (v : Value) (l : List UInt8) (n : Nat) (s : ByteArray) (w : World) (hb : BytesAt w v l) (hn : n < 18446744073709551616) (hlen : l.length ≤ 140737488100000) (hs : s.size ≤ 9223372036854775807) :
    Calls Tryd.prog 4 #[v, .int .u64 (n : Int), .string s] w fun e w' => e = .returned (.bool true) ∧ Below w.heap.size w w' := by
  by_cases hlong : 65535 < s.size
  · have hlong2 : (65535 : Int) < (s.size : Int) := by omega
    go_enter Tryd.func4, Tryd.ntmps4
    go_wp2_with (go_at_call 11; refine (fieldAwake_any _).mono ?_; rintro e w5 ⟨rfl, hb5⟩)
    go_ret
    exact ⟨rfl, hb5⟩
  have hlong2 : (s.size : Int) ≤ 65535 := by omega
  have hsl : s.data.toList.length = s.size := by rw [Array.length_toList]; rfl
  have HB := Lib.hid hb
  obtain ⟨a, c, rfl, hlc, hcm, hl⟩ := hb
  unfold maxLen at hcm
  clear hl
  -- the plain facts
  have e1 : ((l ++ Fld.le 8 n) ++ (Fld.le 2 s.size ++ s.data.toList)).drop l.length = Fld.le 8 n ++ (Fld.le 2 s.size ++ s.data.toList) := by simp
  have e2 : (((l ++ Fld.le 8 n) ++ (Fld.le 2 s.size ++ s.data.toList)).drop l.length).take 8 = Fld.le 8 n := by
    rw [e1]; exact List.take_left' (Fld.le_length 8 n)
  have e3 : ((l ++ Fld.le 8 n) ++ (Fld.le 2 s.size ++ s.data.toList)).drop (l.length + 8) = Fld.le 2 s.size ++ s.data.toList := by
    rw [← List.drop_drop, e1]; exact List.drop_left' (Fld.le_length 8 n)
  have e4 : s.size = Fld.unle ((((l ++ Fld.le 8 n) ++ (Fld.le 2 s.size ++ s.data.toList)).drop (l.length + 8)).take 2) := by
    rw [e3, List.take_left' (Fld.le_length 2 s.size), Fld.unle_le 2 _ (by omega)]
  have e5 : (((l ++ Fld.le 8 n) ++ (Fld.le 2 s.size ++ s.data.toList)).drop (l.length + 8 + 2)).take s.size = s.data.toList := by
    rw [← List.drop_drop, e3, List.drop_left' (Fld.le_length 2 s.size), ← hsl, List.take_length]
  have e6 : ((l ++ Fld.le 8 n) ++ (Fld.le 2 s.size ++ s.data.toList)).length = l.length + 8 + 2 + s.size := by simp [Fld.le_length]; omega
  generalize hZ : (l ++ Fld.le 8 n) ++ (Fld.le 2 s.size ++ s.data.toList) = z at *
  have HZ := Lib.hid hZ
  have HE2 := Lib.hid e2
  have HE4 := Lib.hid e4
  have HE5 := Lib.hid e5
  have HE6 := Lib.hid e6
  clear e1 e2 e3 e4 e5 e6 hZ hsl
  go_enter Tryd.func4, Tryd.ntmps4
  go_wp2_with fail
  refine (put_ok _ l n 8 _ HB.out rfl hn hn (by omega)).mono ?_
  rintro e w1 ⟨⟨v1, rfl, hown1⟩, hb1⟩
  have HO1 := Lib.hid hown1
  clear hown1
  go_wp2_with fail
  refine (putText_ok v1 (l ++ Fld.le 8 n) s _ HO1.out.bytes (by omega) (by rw [List.length_append, Fld.le_length]; omega)).mono ?_
  rintro e w2 ⟨hg, hb2⟩
  rw [HZ.out] at hg
  obtain ⟨a2, c2, rfl, hown2⟩ := hg.seen
  have HO2 := Lib.hid hown2.bytes
  clear hown2 hg
  have hz2 : l.length + 8 ≤ z.length := by have := HE6.out; omega
  have hz3 : z.length ≤ 9223372036854775807 := by have := HE6.out; omega
  go_wp2_with fail
  refine (take_ok _ z l.length 8 _ HO2.out rfl (by omega)).mono ?_
  rintro e w' ⟨he, rfl⟩
  unfold Gives at he
  subst he
  rw [HE2.out, unle_le8 n hn]
  go_wp2_with fail
  rw [show (l.length : Int) + 8 = ((l.length + 8 : Nat) : Int) by omega]
  refine (takeText_ok _ z (l.length + 8) s.size _ HO2.out HE4.out (by have := HE6.out; omega)).mono ?_
  rintro e w' ⟨he, rfl⟩
  unfold Gives3 at he
  subst he
  rw [HE5.out, ← HE6.out]
  go_wp2_with (go_at_call 11; refine (fieldAwake_any _).mono ?_; rintro e w5 ⟨rfl, hb5⟩)
  go_ret
  exact ⟨rfl, below_step (below_step hb1 hb2) hb5⟩

theorem fieldTakes_walk (v : Value) (l : List UInt8) (at_ x : Int) (w : World) (A : Nat → Addr) (hs : Sents w A) (hb : BytesAt w v l) :
    Calls Tryd.prog 6 #[v, .int .i64 at_, .int .i64 x] w fun e w' => e = .returned (.bool true) ∧ Below w.heap.size w w' := by
  have HB := Lib.hid hb
  clear hb
  generalize hT : takeS l at_ x = T
  have HT := Lib.hid hT
  clear hT
  go_enter Tryd.func6, Tryd.ntmps6
  go_wp2_with fail
  refine (take_any v l at_ x _ A hs HB.out).mono ?_
  rintro e w1 ⟨⟨ev, lp, rfl, hE⟩, hb1⟩
  rw [HT.out] at hE ⊢
  have HE := Lib.hid hE
  have hs1 := Lib.hid (hs.below hb1)
  have B1 := Lib.hid (HB.out.below hb1)
  clear hE
  go_wp2_with fail
  refine (refTake_any v l at_ x _ B1.out).mono ?_
  rintro e w' ⟨he, rfl⟩
  unfold Gives at he
  subst he
  rw [HT.out]
  go_wp2_with fail
  refine (tells03_any hs1.out lp T.2 ev HE.out _ rfl).mono ?_
  rintro e w' ⟨rfl, rfl⟩
  go_wp2_with (go_at_call 11; refine (fieldAwake_any _).mono ?_; rintro e w5 ⟨rfl, hb5⟩)
  go_ret
  exact ⟨rfl, below_step hb1 hb5⟩

theorem fieldReads_walk (v : Value) (l : List UInt8) (at_ : Int) (w : World) (A : Nat → Addr) (hs : Sents w A) (hb : BytesAt w v l) :
    Calls Tryd.prog 8 #[v, .int .i64 at_] w fun e w' => e = .returned (.bool true) ∧ Below w.heap.size w w' := by
  have HB := Lib.hid hb
  clear hb
  generalize hT : takeTextS l at_ = T
  obtain ⟨t, n, k⟩ := T
  have HT := Lib.hid hT
  clear hT
  go_enter Tryd.func8, Tryd.ntmps8
  go_wp2_with fail
  refine (takeText_any v l at_ _ A hs HB.out).mono ?_
  rintro e w1 ⟨⟨ev, lp, rfl, hE⟩, hb1⟩
  rw [HT.out] at hE ⊢
  have HE := Lib.hid hE
  have hs1 := Lib.hid (hs.below hb1)
  have B1 := Lib.hid (HB.out.below hb1)
  clear hE
  go_wp2_with fail
  refine (refTakeText_any v l at_ _ B1.out).mono ?_
  rintro e w' ⟨he, rfl⟩
  unfold TextCode at he
  subst he
  rw [HT.out]
  go_wp2_with fail
  refine (tells03_any hs1.out lp k ev HE.out _ rfl).mono ?_
  rintro e w' ⟨rfl, rfl⟩
  go_wp2_with (go_at_call 11; refine (fieldAwake_any _).mono ?_; rintro e w5 ⟨rfl, hb5⟩)
  go_ret
  exact ⟨rfl, below_step hb1 hb5⟩

set_option maxHeartbeats 1000000 in
theorem fieldPuts_walk (v : Value) (l : List UInt8) (n : Nat) (x : Int) (w : World) (A : Nat → Addr) (hs : Sents w A) (hb : BytesAt w v l) (hn : n < 18446744073709551616) (hlen : l.length ≤ 140737488351232) :
    Calls Tryd.prog 5 #[v, .int .u64 (n : Int), .int .i64 x] w fun e w' => e = .returned (.bool true) ∧ Below w.heap.size w w' := by
  have HB := Lib.hid hb
  have HS := Lib.hid hs
  clear hb hs
  generalize hT : putS l n x = T
  obtain ⟨lt, k⟩ := T
  have HT := Lib.hid hT
  clear hT
  go_enter Tryd.func5, Tryd.ntmps5
  go_wp2_with (at_builtin; refine wpList_append_bytes rfl (.tmp 13) (.tmp 14) rfl w.heap.size _ [] rfl (Own.empty w _ (Nat.le_refl _)) _ l rfl (HB.out.alloc _) (by simp; omega) (by simp) ?_)
  intro v1 w1 hown hgrow hnn
  have hb1 := ((Below.refl w.heap.size w).alloc (Nat.le_refl _) (.cells #[] 5)).grown hgrow (by simp) (by intro k hk; simp [Value.ownBlock] at hk; omega)
  have HO := Lib.hid hown
  clear hgrow hown
  rcases HO.out.row with ⟨rfl, _⟩ | ⟨g, cap, rfl, hg1, hg2, hg3, hg4⟩
  · simp at hnn
  unfold maxLen at hg4
  clear hnn
  go_wp2_with fail
  refine (put_any _ l n x _ A (HS.out.below hb1) HO.out.bytes hn hlen).mono ?_
  rintro e w2 ⟨⟨a2, c2, ev, lp, rfl, ho2, hE⟩, hb2⟩
  rw [HT.out] at ho2 hE ⊢
  have HO2 := Lib.hid ho2
  have HE := Lib.hid hE
  have HO1 := Lib.hid (HO.out.below hb2 (Nat.le_refl _))
  have hb3 := below_step hb1 hb2
  clear ho2 hE
  go_wp2
  go_loopw [10] (fun i wr => ∃ j : Nat, j ≤ l.length ∧ i = .int .i64 j ∧ ∃ l', l'.length = l.length ∧ Own wr w.heap.size (.slice (some ⟨g, 0, none⟩) l.length cap) l' ∧ w2.grownBy wr (some g)) (fun i _ => l.length - (intOf i).toNat)
  case atStart => exact ⟨0, by omega, rfl, l, rfl, HO1.out, World.grownBy.refl _ _⟩
  case round =>
    obtain ⟨j, hj, rfl, l', hl', ho', hgr⟩ := hrel
    have HO' := Lib.hid ho'
    have HG := Lib.hid hgr
    have HL' := Lib.hid hl'
    clear ho' hgr hl'
    by_cases hlt : j < l.length
    · obtain ⟨y, hy⟩ := getElem?_some_of_lt (show j < l'.length by have := HL'.out; omega)
      have hcell := HO'.out.cell HL'.out.symm hy
      have hfree := HO'.out.free HL'.out.symm j
      have HW := Lib.hid (HO'.out.set (k := j) HL'.out.symm (255 ^^^ y))
      clear hy
      go_wp2
      go_roundw
      case rel =>
        rw [not_u8]
        exact ⟨j + 1, by omega, by go_num, _, by rw [List.length_set, HL'.out], HW.out, grownBy_set HG.out _ _⟩
      case measure => simp [intOf]; omega
    · have hbr := hb3.grown HG.out hb3.size (fun k hk => by cases hk; exact hg1)
      have BR := Lib.hid (HB.out.below hbr)
      have SR := Lib.hid (HS.out.below hbr)
      have OR := Lib.hid (HO2.out.keep HG.out hg2)
      have ER := Lib.hid (HE.out.grown HG.out (fun k hk => by cases hk; exact hg2))
      clear hj
      go_wp2_with fail
      refine (refPut_any v l n x _ BR.out hn hlen).mono ?_
      rintro e w3 ⟨⟨a3, c3, rfl, ho3⟩, hb4⟩
      rw [HT.out] at ho3 ⊢
      have B3 := Lib.hid ho3.bytes
      have S3 := Lib.hid (SR.out.below hb4)
      have E3 := Lib.hid (ER.out.below hb4)
      have O3 := Lib.hid (OR.out.bytes.below hb4)
      clear ho3
      go_wp2_with fail
      refine (tells03_any S3.out lp k ev E3.out _ rfl).mono ?_
      rintro e w' ⟨rfl, rfl⟩
      have heq : (lt == lt) = true := by simp
      go_wp2_with fail
      refine (same_any _ _ lt lt _ O3.out B3.out).mono ?_
      rintro e w4 ⟨rfl, hb5⟩
      go_wp2_with (go_at_call 11; refine (fieldAwake_any _).mono ?_; rintro e w5 ⟨rfl, hb6⟩)
      go_ret
      exact ⟨rfl, below_step (below_step (below_step hbr hb4) hb5) hb6⟩

set_option maxHeartbeats 1000000 in
theorem fieldTexts_walk (v : Value) (l : List UInt8) (s : ByteArray) (w : World) (A : Nat → Addr) (hs : Sents w A) (hb : BytesAt w v l) (hm : s.size ≤ 9223372036854775807) (hlen : l.length ≤ 140737488200000) :
    Calls Tryd.prog 7 #[v, .string s] w fun e w' => e = .returned (.bool true) ∧ Below w.heap.size w w' := by
  have HB := Lib.hid hb
  have HS := Lib.hid hs
  clear hb hs
  generalize hT : putTextS l s = T
  obtain ⟨lt, k⟩ := T
  have HT := Lib.hid hT
  clear hT
  go_enter Tryd.func7, Tryd.ntmps7
  go_wp2_with (at_builtin; refine wpList_append_bytes rfl (.tmp 11) (.tmp 12) rfl w.heap.size _ [] rfl (Own.empty w _ (Nat.le_refl _)) _ l rfl (HB.out.alloc _) (by simp; omega) (by simp) ?_)
  intro v1 w1 hown hgrow hnn
  have hb1 := ((Below.refl w.heap.size w).alloc (Nat.le_refl _) (.cells #[] 5)).grown hgrow (by simp) (by intro k hk; simp [Value.ownBlock] at hk; omega)
  have HO := Lib.hid hown
  clear hgrow hown
  rcases HO.out.row with ⟨rfl, _⟩ | ⟨g, cap, rfl, hg1, hg2, hg3, hg4⟩
  · simp at hnn
  unfold maxLen at hg4
  clear hnn
  go_wp2_with fail
  refine (putText_any _ l s _ A (HS.out.below hb1) HO.out.bytes hm hlen).mono ?_
  rintro e w2 ⟨⟨a2, c2, ev, lp, rfl, ho2, hE⟩, hb2⟩
  rw [HT.out] at ho2 hE ⊢
  have HO2 := Lib.hid ho2
  have HE := Lib.hid hE
  have HO1 := Lib.hid (HO.out.below hb2 (Nat.le_refl _))
  have hb3 := below_step hb1 hb2
  clear ho2 hE
  go_wp2
  go_loopw [8] (fun i wr => ∃ j : Nat, j ≤ l.length ∧ i = .int .i64 j ∧ ∃ l', l'.length = l.length ∧ Own wr w.heap.size (.slice (some ⟨g, 0, none⟩) l.length cap) l' ∧ w2.grownBy wr (some g)) (fun i _ => l.length - (intOf i).toNat)
  case atStart => exact ⟨0, by omega, rfl, l, rfl, HO1.out, World.grownBy.refl _ _⟩
  case round =>
    obtain ⟨j, hj, rfl, l', hl', ho', hgr⟩ := hrel
    have HO' := Lib.hid ho'
    have HG := Lib.hid hgr
    have HL' := Lib.hid hl'
    clear ho' hgr hl'
    by_cases hlt : j < l.length
    · obtain ⟨y, hy⟩ := getElem?_some_of_lt (show j < l'.length by have := HL'.out; omega)
      have hcell := HO'.out.cell HL'.out.symm hy
      have hfree := HO'.out.free HL'.out.symm j
      have HW := Lib.hid (HO'.out.set (k := j) HL'.out.symm (255 ^^^ y))
      clear hy
      go_wp2
      go_roundw
      case rel =>
        rw [not_u8]
        exact ⟨j + 1, by omega, by go_num, _, by rw [List.length_set, HL'.out], HW.out, grownBy_set HG.out _ _⟩
      case measure => simp [intOf]; omega
    · have hbr := hb3.grown HG.out hb3.size (fun k hk => by cases hk; exact hg1)
      have BR := Lib.hid (HB.out.below hbr)
      have SR := Lib.hid (HS.out.below hbr)
      have OR := Lib.hid (HO2.out.keep HG.out hg2)
      have ER := Lib.hid (HE.out.grown HG.out (fun k hk => by cases hk; exact hg2))
      clear hj
      go_wp2_with fail
      refine (refPutText_any v l s _ BR.out hm hlen).mono ?_
      rintro e w3 ⟨⟨a3, c3, rfl, ho3⟩, hb4⟩
      rw [HT.out] at ho3 ⊢
      have B3 := Lib.hid ho3.bytes
      have S3 := Lib.hid (SR.out.below hb4)
      have E3 := Lib.hid (ER.out.below hb4)
      have O3 := Lib.hid (OR.out.bytes.below hb4)
      clear ho3
      go_wp2_with fail
      refine (tells03_any S3.out lp k ev E3.out _ rfl).mono ?_
      rintro e w' ⟨rfl, rfl⟩
      have heq : (lt == lt) = true := by simp
      go_wp2_with fail
      refine (same_any _ _ lt lt _ O3.out B3.out).mono ?_
      rintro e w4 ⟨rfl, hb5⟩
      go_wp2_with (go_at_call 11; refine (fieldAwake_any _).mono ?_; rintro e w5 ⟨rfl, hb6⟩)
      go_ret
      exact ⟨rfl, below_step (below_step (below_step hbr hb4) hb5) hb6⟩
end Go.Proofs.YtnaepddnbnciaaaDoor
