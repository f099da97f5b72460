/- the walks of field.PutText, field.TakeText, field.Order -/
import Derived.Test.YtnaepddnbnciaaaDoorField
namespace Go.Proofs.YtnaepddnbnciaaaDoor
open Go.RowKit

set_option maxHeartbeats 1000000 in
theorem putText_ok (v : Value) (l : List UInt8) (s : ByteArray) (w : World) (hb : BytesAt w v l) (hs : s.size ≤ 65535) (hlen : l.length ≤ 140737488200000) :
    Calls Tryd.prog 13 #[v, .string s] w fun e w' => GivesBytes w (l ++ (Fld.le 2 s.size ++ s.data.toList)) e w' ∧ Below w.heap.size w w' := by
  have HB := Lib.hid hb
  clear hb
  go_enter Tryd.func13, Tryd.ntmps13
  go_wp2_with fail
  refine (put_ok v l s.size 2 _ HB.out rfl (by omega) (by omega) (by omega)).mono ?_
  rintro e w1 ⟨⟨v1, rfl, hown⟩, hb1⟩
  have HO := Lib.hid hown
  clear hown
  have hsz := hb1.size
  go_wp2_with (at_builtin; refine wpList_append_any rfl (.tmp 25) (.tmp 26) 9 rfl w.heap.size _ (l ++ Fld.le 2 s.size) rfl HO.out _ s.data.toList rfl (str_src s w1) (by simp [Fld.le_length]; omega) hsz ?_)
  intro v2 w2 hown hgrow _
  have hb2 := hb1.grown hgrow hsz (fun j hj => (HO.out.lt j hj).1)
  go_wp2
  go_ret2
  exact ⟨⟨_, rfl, hown⟩, hb2⟩
theorem putText_long (v : Value) (s : ByteArray) (w : World) (A : Nat → Addr) (hse : Sents w A) (hs : 65535 < s.size) (hm : s.size ≤ 9223372036854775807) :
    Calls Tryd.prog 13 #[v, .string s] w fun e w' => Fails2 (.slice none 0 0) A w.heap.size [-1] 8 e w' ∧ Below w.heap.size w w' := by
  have g2 : w.cell? ⟨1, 0, none⟩ = some (.iface 74 (.pointer (some (A 8)))) := hse.cell 8 (by decide) (by decide)
  have HE := Lib.hid (sent_err (w := w) (A := A) (B := w.heap.size) 8 (by decide) (by decide))
  go_enter Tryd.func13, Tryd.ntmps13
  go_wp2_with (go_at_call 23; refine (faultNew_any _ 8 _ _ A _ HE.out (by decide) (Nat.le_refl _)).mono ?_; rintro e w' ⟨⟨v1, rfl, he⟩, hb⟩)
  go_ret2
  exact ⟨⟨_, rfl, he⟩, hb⟩

def Fails3 (x y : Value) (A : Nat → Addr) (B : Nat) (l : List Int) (k : Nat) (e : Ending) (w' : World) : Prop := ∃ v, e = .returned (.tuple #[x, y, v]) ∧ ErrIs w' A B l k v
def Gives3 (a b c : Value) (e : Ending) : Prop := e = .returned (.tuple #[a, b, c])

set_option maxRecDepth 100000 in
set_option maxHeartbeats 1000000 in
theorem takeText_ok (v : Value) (l : List UInt8) (at_ n : Nat) (w : World) (hb : BytesAt w v l) (hn : n = Fld.unle ((l.drop at_).take 2)) (hat : at_ + 2 + n ≤ l.length) :
    Calls Tryd.prog 15 #[v, .int .i64 (at_ : Int)] w fun e w' => Gives3 (.string ⟨((l.drop (at_ + 2)).take n).toArray⟩) (.int .i64 ((at_ + 2 + n : Nat) : Int)) .nilIface e ∧ w = w' := by
  have HB := Lib.hid hb
  have HN := Lib.hid hn
  clear hn
  obtain ⟨a, c, rfl, hlc, hcm, hl⟩ := hb
  unfold maxLen at hcm
  have hl2 : ∃ b o, a = some ⟨b, o, none⟩ := by
    rcases hl with rfl | ⟨b, o, e, _⟩
    · simp at hat
    · exact ⟨b, o, e⟩
  clear hl
  obtain ⟨b, o, rfl⟩ := hl2
  have q1 : (at_ : Int) + 2 + (n : Int) ≤ (l.length : Int) := by omega
  have q2 : at_ + 2 + n ≤ c := by omega
  by_cases hc2 : c = at_ + 2
  · subst hc2
    obtain rfl : n = 0 := by omega
    have hcv := string_of (w := w) (v := .slice (some ⟨b, o, none⟩) 0 0) (l := []) ⟨_, 0, rfl, Nat.le_refl _, Nat.zero_le _, .inl rfl⟩
    clear hat
    go_enter Tryd.func15, Tryd.ntmps15
    go_wp2_with fail
    refine (take_ok _ l at_ 2 _ HB.out rfl (by omega)).mono ?_
    rintro e w1 ⟨he, rfl⟩
    unfold Gives at he
    subst he
    rw [← HN.out]
    go_wp2
    go_ret3
    exact ⟨rfl, rfl⟩
  · have hcv := string_of (HB.out.cut (at_ + 2) n hat)
    clear hat
    go_enter Tryd.func15, Tryd.ntmps15
    go_wp2_with fail
    refine (take_ok _ l at_ 2 _ HB.out rfl (by omega)).mono ?_
    rintro e w1 ⟨he, rfl⟩
    unfold Gives at he
    subst he
    rw [← HN.out]
    go_wp2
    go_ret3
    exact ⟨rfl, rfl⟩

/-- the text is longer than what is left -/
theorem takeText_short (v : Value) (l : List UInt8) (at_ : Nat) (w : World) (A : Nat → Addr) (hs : Sents w A) (hb : BytesAt w v l) (hat : at_ + 2 ≤ l.length) (hn : l.length < at_ + 2 + Fld.unle ((l.drop at_).take 2)) :
    Calls Tryd.prog 15 #[v, .int .i64 (at_ : Int)] w fun e w' => Fails3 (.string ⟨#[]⟩) (.int .i64 0) A w.heap.size [-1] 1 e w' ∧ Below w.heap.size w w' := by
  have HB := Lib.hid hb
  obtain ⟨a, c, rfl, hlc, hcm, hl⟩ := hb
  unfold maxLen at hcm
  clear hl
  have h2 := Fld.unle_lt ((l.drop at_).take 2)
  have h3 : ((l.drop at_).take 2).length = 2 := by simp; omega
  rw [h3] at h2
  generalize hN : Fld.unle ((l.drop at_).take 2) = n at hn h2
  have HN := Lib.hid hN
  clear hN h3
  have q1 : (l.length : Int) - (at_ : Int) - 2 < (n : Int) := by omega
  have g1 : w.cell? ⟨2, 0, none⟩ = some (.iface 74 (.pointer (some (A 1)))) := hs.cell 1 (by decide) (by decide)
  have HE := Lib.hid (sent_err (w := w) (A := A) (B := w.heap.size) 1 (by decide) (by decide))
  go_enter Tryd.func15, Tryd.ntmps15
  go_wp2_with fail
  refine (take_ok _ l at_ 2 _ HB.out rfl (by omega)).mono ?_
  rintro e w1 ⟨he, rfl⟩
  unfold Gives at he
  subst he
  rw [HN.out]
  go_wp2_with (go_at_call 23; refine (faultNew_any _ 1 _ _ A _ HE.out (by decide) (Nat.le_refl _)).mono ?_; rintro e w' ⟨⟨v1, rfl, he⟩, hb⟩)
  go_ret3
  exact ⟨⟨_, rfl, he⟩, hb⟩
/-- there is not even a length -/
theorem takeText_bad (v : Value) (x : Int) (k : Nat) (hk : k ≠ 0) (w : World) (A : Nat → Addr)
    (h : Calls Tryd.prog 14 #[v, .int .i64 x, .int .i64 2] w fun e w' => Fails2 (.int .u64 0) A w.heap.size [-1] k e w' ∧ Below w.heap.size w w') :
    Calls Tryd.prog 15 #[v, .int .i64 x] w fun e w' => Fails3 (.string ⟨#[]⟩) (.int .i64 0) A w.heap.size [-1, -1] k e w' ∧ Below w.heap.size w w' := by
  have H := Lib.hid h
  clear h
  go_enter Tryd.func15, Tryd.ntmps15
  go_wp2_with fail
  refine H.out.mono ?_
  rintro e w1 ⟨⟨v1, rfl, he⟩, hb1⟩
  have HE := Lib.hid he
  obtain ⟨t, y, rfl⟩ := he.iface hk
  clear he
  go_wp2_with (go_at_call 24; refine (faultWrap_any _ [-1] k _ _ A _ HE.out hk hb1.size).mono ?_; rintro e w' ⟨⟨v1, rfl, he⟩, hb⟩)
  go_ret3
  exact ⟨⟨_, rfl, he⟩, hb1.trans (hb.mono hb1.size)⟩

/-- a number's eight bytes, the highest one first -/
def orderL (n : Nat) : List UInt8 := (Fld.le 8 n).reverse
def orderAt (n k : Nat) : List UInt8 := List.replicate (8 - k) 0 ++ (Fld.le k n).reverse
theorem shift_byte (n k : Nat) : ((n : Int) / 2 ^ (8 * k) % 256) = ((UInt8.ofNat (n / 256 ^ k)).toNat : Int) := by
  have h2 : 256 ^ k = 2 ^ (8 * k) := by rw [Nat.pow_mul]
  rw [UInt8.toNat_ofNat', h2]
  simp
theorem orderAt_zero (n : Nat) : orderAt n 0 = List.replicate 8 0 := by simp [orderAt, Fld.le]
theorem orderAt_all (n : Nat) : orderAt n 8 = orderL n := by simp [orderAt, orderL]
theorem orderAt_length (n k : Nat) (h : k ≤ 8) : (orderAt n k).length = 8 := by simp [orderAt, Fld.le_length]; omega
theorem orderAt_next (n k : Nat) (h : k < 8) : (orderAt n k).set (7 - k) (UInt8.ofNat (n / 256 ^ k)) = orderAt n (k + 1) := by
  unfold orderAt
  rw [Fld.le_snoc, List.reverse_append, List.reverse_singleton]
  have e : List.replicate (8 - k) (0 : UInt8) = List.replicate (8 - (k + 1)) 0 ++ [0] := by
    rw [← List.replicate_succ']; congr 1; omega
  rw [e, List.append_assoc, List.set_append_right _ _ (by simp <;> omega)]
  simp only [List.length_replicate]
  rw [show 7 - k - (8 - (k + 1)) = 0 by omega]
  rfl

set_option maxHeartbeats 1000000 in
theorem order_any (n : Nat) (w : World) :
    Calls Tryd.prog 9 #[.int .u64 (n : Int)] w fun e w' => e = .returned (.string ⟨(orderL n).toArray⟩) ∧ Below w.heap.size w w' := by
  go_enter Tryd.func9, Tryd.ntmps9
  go_wp2_with (at_make; refine wpList_make_bytes rfl _ _ rfl 8 _ _ rfl rfl rfl rfl (by omega) ?_)
  intro w1 hown hgrow
  have hbel := (Below.refl w.heap.size w).grown hgrow (Nat.le_refl _) (by intro k hk; cases hk)
  have HO := Lib.hid hown
  clear hgrow hown
  go_wp2
  go_loopw [8] (fun i wr => ∃ k : Nat, k ≤ 8 ∧ i = .int .i64 k ∧ Own wr w.heap.size (.slice (some ⟨w.heap.size, 0, none⟩) 8 8) (orderAt n k) ∧ Below w.heap.size w wr) (fun i _ => 8 - (intOf i).toNat)
  case atStart => exact ⟨0, by omega, rfl, by rw [orderAt_zero]; exact HO.out, hbel⟩
  case round =>
    obtain ⟨k, hk, rfl, ho, hbr⟩ := hrel
    have hol := orderAt_length n k hk
    have HO2 := Lib.hid ho
    clear ho
    by_cases hlt : k < 8
    · obtain ⟨x0, hx0⟩ := getElem?_some_of_lt (show 7 - k < (orderAt n k).length by omega)
      have hcell := HO2.out.cell hol.symm hx0
      have hfree := HO2.out.free hol.symm (7 - k)
      have HS := Lib.hid (HO2.out.set (k := 7 - k) hol.symm (UInt8.ofNat (n / 256 ^ k)))
      clear hx0 hol
      go_wp2
      go_roundw
      case rel => exact ⟨k + 1, by omega, by go_num, by rw [shift_byte, ← orderAt_next n k hlt]; exact HS.out, hbr.setCell (Nat.le_refl _) _⟩
      case measure => simp [intOf]; omega
    · have hk8 : k = 8 := by omega
      subst hk8
      have hcv := string_of HO2.out.bytes
      rw [orderAt_all] at hcv
      clear hol
      go_wp2
      go_ret
      exact ⟨rfl, hbr⟩
end Go.Proofs.YtnaepddnbnciaaaDoor
