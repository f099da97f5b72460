/- the walks of the document's PutText, TakeText, Order -/
import Derived.Test.YtnaepddnbnciaaaDoorFieldRef
namespace Go.Proofs.YtnaepddnbnciaaaDoor
open Go.RowKit

theorem two_bytes (w : World) (n : Nat) (a b : Int) (h : n ≤ 65535) (ha : a = (n : Int) % 256) (hb : b = (n : Int) / 256) (t : TypeId) : BytesAt (w.alloc (.cells #[.int .u8 a, .int .u8 b] t)) (.slice (some ⟨w.heap.size, 0, none⟩) 2 2) (Fld.le 2 n) := by
  have e1 : a = ((UInt8.ofNat n).toNat : Int) := by rw [UInt8.toNat_ofNat']; omega
  have e2 : b = ((UInt8.ofNat (n / 256)).toNat : Int) := by rw [UInt8.toNat_ofNat']; omega
  subst e1 e2
  refine ⟨_, 2, rfl, Nat.le_refl _, by unfold maxLen; omega, .inr ⟨w.heap.size, 0, rfl, fun i y hy => ?_⟩⟩
  rw [cell_of_row _ w.heap.size (0 + i) _ t (0, 0) (heap_alloc_new w _)]
  match i, hy with
  | 0, hy => simp [Fld.le] at hy; subst hy; simp
  | 1, hy => simp [Fld.le] at hy; subst hy; simp
  | i + 2, hy => simp [Fld.le] at hy

set_option maxHeartbeats 1000000 in
theorem refPutText_ok (v : Value) (l : List UInt8) (s : ByteArray) (w : World) (hb : BytesAt w v l) (hs : s.size ≤ 65535) (hlen : l.length ≤ 140737488200000) :
    Calls Tryd.prog 20 #[v, .string s] w fun e w' => GivesBytesC w (l ++ (Fld.le 2 s.size ++ s.data.toList)) e w' ∧ Below w.heap.size w w' := by
  have HB := Lib.hid hb
  clear hb
  go_enter Tryd.func20, Tryd.ntmps20
  go_wp2_with (at_builtin; refine wpList_append_bytes rfl (.tmp 10) (.tmp 11) rfl w.heap.size _ [] rfl (Own.empty w _ (Nat.le_refl _)) _ l rfl (HB.out.alloc _) (by simp; omega) (by simp) ?_)
  intro v1 w1 hown hgrow _
  have hb1 := ((Below.refl w.heap.size w).alloc (Nat.le_refl _) (.cells #[] 5)).grown hgrow (by simp) (by intro k hk; simp [Value.ownBlock] at hk; omega)
  have HO := Lib.hid hown
  clear hgrow hown
  have hsz := hb1.size
  have T2 := Lib.hid (two_bytes w1 s.size ((s.size : Int) % 256) ((s.size : Int) / 256) hs rfl rfl 5)
  go_wp2_with (at_builtin; refine wpList_append_bytes rfl (.tmp 13) (.tmp 22) rfl w.heap.size _ l rfl (HO.out.alloc _) _ (Fld.le 2 s.size) rfl T2.out (by rw [Fld.le_length]; omega) (by simp; omega) ?_)
  intro v2 w2 hown hgrow _
  have hb2 := (hb1.alloc hsz (.cells #[.int .u8 ((s.size : Int) % 256), .int .u8 ((s.size : Int) / 256)] 5)).grown hgrow (by simp; omega) (fun j hj => (HO.out.lt j hj).1)
  have HO2 := Lib.hid hown
  clear hgrow hown
  have hsz2 := hb2.size
  have hbs := fun wx => run_bytes_of_string (P := Tryd.prog) wx 9 26 5 s Tryd.underlying9 Tryd.underlying26 Tryd.underlying5
  have T3 := Lib.hid (bytes_of_string w2 s (by unfold maxLen; omega))
  have hll : (l ++ Fld.le 2 s.size).length + s.data.toList.length ≤ 140737488355328 := by
    have : s.data.toList.length = s.size := by rw [Array.length_toList]; rfl
    rw [List.length_append, Fld.le_length]; omega
  go_wp2_with (at_builtin; refine wpList_append_bytes rfl (.tmp 24) (.tmp 26) rfl w.heap.size _ (l ++ Fld.le 2 s.size) rfl (HO2.out.alloc _) _ s.data.toList rfl T3.out hll (by simp; omega) ?_)
  intro v3 w3 hown hgrow _
  have hb3 := (hb2.drew.alloc hsz2 (.cells (bytesRow s (grownCap w2 s.size 0 5)) 5 ((bytesRow s (grownCap w2 s.size 0 5)).size, (bytesRow s (grownCap w2 s.size 0 5)).size + 1))).grown hgrow (by simp; omega) (fun j hj => (HO2.out.lt j hj).1)
  clear hbs
  go_wp2
  go_ret2
  exact ⟨⟨_, rfl, by simpa using hown⟩, hb3⟩
theorem refPutText_long (v : Value) (s : ByteArray) (w : World) (hs : 65535 < s.size) (hm : s.size ≤ 9223372036854775807) :
    Calls Tryd.prog 20 #[v, .string s] w fun e w' => Gives (.slice none 0 0) (.int .i64 8) e ∧ w = w' := by
  go_enter Tryd.func20, Tryd.ntmps20
  go_wp2
  go_ret2
  exact ⟨rfl, rfl⟩

set_option maxRecDepth 100000 in
set_option maxHeartbeats 1000000 in
theorem refTakeText_ok (v : Value) (l : List UInt8) (at_ n : Nat) (w : World) (hb : BytesAt w v l) (hn : n = Fld.unle ((l.drop at_).take 2)) (hat : at_ + 2 + n ≤ l.length) :
    Calls Tryd.prog 21 #[v, .int .i64 (at_ : Int)] w fun e w' => Gives3 (.string ⟨((l.drop (at_ + 2)).take n).toArray⟩) (.int .i64 ((at_ + 2 + n : Nat) : Int)) (.int .i64 0) e ∧ w = w' := by
  have HB := Lib.hid hb
  have HN := Lib.hid hn
  clear hn
  obtain ⟨a, c, rfl, hlc, hcm, hl⟩ := hb
  unfold maxLen at hcm
  have hl2 : ∃ b o, a = some ⟨b, o, none⟩ := by
    rcases hl with rfl | ⟨b, o, e, _⟩
    · simp at hat
    · exact ⟨b, o, e⟩
  clear hl
  obtain ⟨b, o, rfl⟩ := hl2
  have q1 : (at_ : Int) + 2 + (n : Int) ≤ (l.length : Int) := by omega
  have q2 : at_ + 2 + n ≤ c := by omega
  by_cases hc2 : c = at_ + 2
  · subst hc2
    obtain rfl : n = 0 := by omega
    have hcv := string_of (w := w) (v := .slice (some ⟨b, o, none⟩) 0 0) (l := []) ⟨_, 0, rfl, Nat.le_refl _, Nat.zero_le _, .inl rfl⟩
    clear hat
    go_enter Tryd.func21, Tryd.ntmps21
    go_wp2_with fail
    refine (refTake_ok _ l at_ 2 _ HB.out rfl (by omega)).mono ?_
    rintro e w1 ⟨he, rfl⟩
    unfold Gives at he
    subst he
    rw [← HN.out]
    go_wp2
    go_ret3
    exact ⟨rfl, rfl⟩
  · have hcv := string_of (HB.out.cut (at_ + 2) n hat)
    clear hat
    go_enter Tryd.func21, Tryd.ntmps21
    go_wp2_with fail
    refine (refTake_ok _ l at_ 2 _ HB.out rfl (by omega)).mono ?_
    rintro e w1 ⟨he, rfl⟩
    unfold Gives at he
    subst he
    rw [← HN.out]
    go_wp2
    go_ret3
    exact ⟨rfl, rfl⟩
theorem refTakeText_short (v : Value) (l : List UInt8) (at_ : Nat) (w : World) (hb : BytesAt w v l) (hat : at_ + 2 ≤ l.length) (hn : l.length < at_ + 2 + Fld.unle ((l.drop at_).take 2)) :
    Calls Tryd.prog 21 #[v, .int .i64 (at_ : Int)] w fun e w' => Gives3 (.string ⟨#[]⟩) (.int .i64 0) (.int .i64 1) e ∧ w = w' := by
  have HB := Lib.hid hb
  obtain ⟨a, c, rfl, hlc, hcm, hl⟩ := hb
  unfold maxLen at hcm
  clear hl
  have h2 := Fld.unle_lt ((l.drop at_).take 2)
  have h3 : ((l.drop at_).take 2).length = 2 := by simp; omega
  rw [h3] at h2
  generalize hN : Fld.unle ((l.drop at_).take 2) = n at hn h2
  have HN := Lib.hid hN
  clear hN h3
  have q1 : (l.length : Int) - (at_ : Int) - 2 < (n : Int) := by omega
  have q0 : 0 ≤ (l.length : Int) - (at_ : Int) - 2 := by omega
  go_enter Tryd.func21, Tryd.ntmps21
  go_wp2_with fail
  refine (refTake_ok _ l at_ 2 _ HB.out rfl (by omega)).mono ?_
  rintro e w1 ⟨he, rfl⟩
  unfold Gives at he
  subst he
  rw [HN.out]
  go_wp2
  go_ret3
  exact ⟨rfl, rfl⟩
theorem refTakeText_bad (v : Value) (x c : Int) (hc : (c != 0) = true) (w : World)
    (h : Calls Tryd.prog 19 #[v, .int .i64 x, .int .i64 2] w fun e w' => Gives (.int .u64 0) (.int .i64 c) e ∧ w = w') :
    Calls Tryd.prog 21 #[v, .int .i64 x] w fun e w' => Gives3 (.string ⟨#[]⟩) (.int .i64 0) (.int .i64 c) e ∧ w = w' := by
  have H := Lib.hid h
  clear h
  go_enter Tryd.func21, Tryd.ntmps21
  go_wp2_with fail
  refine H.out.mono ?_
  rintro e w1 ⟨he, rfl⟩
  unfold Gives at he
  subst he
  go_wp2
  go_ret3
  exact ⟨rfl, rfl⟩

set_option maxHeartbeats 1000000 in
theorem refOrder_any (n : Nat) (hn : n < 18446744073709551616) (w : World) :
    Calls Tryd.prog 10 #[.int .u64 (n : Int)] w fun e w' => e = .returned (.string ⟨(orderL n).toArray⟩) ∧ Below w.heap.size w w' := by
  go_enter Tryd.func10, Tryd.ntmps10
  go_wp2
  go_loopw [3, 0, 4] (fun o m i wr => ∃ k : Nat, k ≤ 8 ∧ i = .int .i64 k ∧ m = .int .u64 (nRest n k) ∧ o = .string ⟨(Fld.le k n).reverse.toArray⟩ ∧ Below w.heap.size w wr) (fun _ _ i _ => 8 - (intOf i).toNat)
  case atStart => exact ⟨0, by omega, rfl, by rw [nRest_zero], rfl, Below.refl _ _⟩
  case round =>
    obtain ⟨k, hk, rfl, rfl, rfl, hbr⟩ := hrel
    have hbd := nRest_bd n k hn
    have hsz := hbr.size
    by_cases hlt : k < 8
    · have HN := Lib.hid (Fld.le_snoc k n)
      have hz := nRest_byte n k
      have hll : ((Fld.le k n).reverse).length ≤ 8 := by simp [Fld.le_length]; omega
      generalize UInt8.ofNat (n / 256 ^ k) = x at *
      generalize hL : (Fld.le k n).reverse = L at *
      have HL := Lib.hid hL
      clear hL
      have hcv := string_of (one_byte wr x _ hz 5)
      have hadd := fun wx => run_string_add_lists (P := Tryd.prog) wx [x] L (by simp) (by omega)
      have HZ := Lib.hid hz
      clear hz
      go_wp2
      go_roundw
      case rel => exact ⟨k + 1, by omega, by go_num, by rw [nRest_next], by rw [HN.out, List.reverse_append, HL.out]; rfl, hbr.alloc hsz _⟩
      case measure => simp [intOf]; omega
    · have hk8 : k = 8 := by omega
      subst hk8
      go_wp2
      go_ret
      exact ⟨rfl, hbr⟩
end Go.Proofs.YtnaepddnbnciaaaDoor
