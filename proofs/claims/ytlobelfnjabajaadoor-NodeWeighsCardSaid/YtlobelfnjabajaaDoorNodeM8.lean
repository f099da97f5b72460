/- merged: NodeD1, NodeD2, NodeR2 -/
import Derived.Test.YtlobelfnjabajaaDoorNodeM4
import Derived.Test.YtlobelfnjabajaaDoorFieldNum
import Derived.Test.YtlobelfnjabajaaDoorNodeM6
import Derived.Test.YtlobelfnjabajaaDoorMix
/- nodes: the document's num, text, take, word, one -/
namespace Go.Proofs.YtlobelfnjabajaaDoor
open Go.RowKit
set_option linter.unusedVariables false
set_option linter.unusedSimpArgs false

theorem putS_ok (l : List UInt8) (n x : Nat) (hr : Fld.right (x : Int) = true) (hn : n < 256 ^ x) : putS l n (x : Int) = (l ++ Fld.le x n, 0) := by
  unfold putS
  rw [if_pos ⟨hr, by simpa using hn⟩]
  simp
theorem refPut_ok2 (v : Value) (l M : List UInt8) (n x : Nat) (hM : l ++ Fld.le x n = M) (N X : Int) (hN : N = (n : Int)) (hX : X = (x : Int)) (w : World) (hb : BytesAt w v l) (hr : Fld.right (x : Int) = true) (hn : n < 256 ^ x) (hn6 : n < 4294967296) (hlen : l.length ≤ 140737488351232) :
    Calls Tryd.prog 81 #[v, .int .u64 N, .int .i64 X] w fun e w' => (∃ a c, e = .returned (.tuple #[.slice a M.length c, .int .i64 0]) ∧ Own w' w.heap.size (.slice a M.length c) M) ∧ Below w.heap.size w w' := by
  subst hN hX hM
  refine (refPut_any v l n (x : Int) w hb (by omega) hlen).mono ?_
  rw [putS_ok l n x hr hn]
  rintro e w' ⟨⟨a, c, he, ho⟩, hb⟩
  exact ⟨⟨a, c, he, ho⟩, hb⟩
set_option maxRecDepth 100000 in
set_option maxHeartbeats 1000000 in
theorem refNum_is (v : Value) (l M : List UInt8) (n x : Nat) (hM : l ++ Fld.le x n = M) (N X : Int) (hN : N = (n : Int)) (hX : X = (x : Int)) (w : World) (hb : BytesAt w v l) (hr : Fld.right (x : Int) = true) (hn : n < 256 ^ x) (hn6 : n < 4294967296) (hlen : l.length ≤ 140737488351232) :
    Calls Tryd.prog 67 #[v, .int .i64 N, .int .i64 X] w fun e w' => (∃ a c, e = .returned (.slice a M.length c) ∧ Own w' w.heap.size (.slice a M.length c) M) ∧ Below w.heap.size w w' := by
  have hw : IntKind.u64.wrap N = (n : Int) := by rw [IntKind.wrap_u64]; omega
  have HB := Lib.hid hb
  have HR := Lib.hid hr
  have HN := Lib.hid hn
  have HM := Lib.hid hM
  have HX := Lib.hid hX
  have HL := Lib.hid hlen
  have HN6 := Lib.hid hn6
  clear hb hr hn hM hX hlen hn6 hN
  go_enter Tryd.func67, Tryd.ntmps67
  go_wp2_with (go_at_call 81; (refine (refPut_ok2 v l M n x HM.out _ X rfl HX.out _ HB.out HR.out HN.out HN6.out HL.out).mono ?_); (rintro e w1 ⟨⟨a1, c1, rfl, ho1⟩, hb1⟩); (have HO1 := Lib.hid ho1); (have HB1 := Lib.hid hb1); (clear ho1 hb1))
  go_ret
  exact ⟨⟨a1, c1, rfl, HO1.out⟩, HB1.out⟩
set_option maxRecDepth 100000 in
set_option maxHeartbeats 1000000 in
theorem refText_is (v : Value) (l M : List UInt8) (s : ByteArray) (hM : l ++ txtL s = M) (w : World) (hb : BytesAt w v l) (hs : s.size < 256) (hlen : l.length ≤ 90000000) :
    Calls Tryd.prog 68 #[v, .string s] w fun e w' => (∃ a c, e = .returned (.slice a M.length c) ∧ Own w' w.heap.size (.slice a M.length c) M) ∧ Below w.heap.size w w' := by
  have HB := Lib.hid hb
  obtain ⟨L1, hL1⟩ : ∃ L1, l ++ Fld.le 1 s.size = L1 := ⟨_, rfl⟩
  have HM := Lib.hid (show L1 ++ s.data.toList = M by rw [← hM, ← hL1, txtL, List.append_assoc])
  have hll : L1.length ≤ 90000001 := by rw [← hL1, List.length_append, Fld.le_length]; omega
  have HL1 := Lib.hid hL1
  have HL := Lib.hid hll
  have HS := Lib.hid hs
  have HL0 := Lib.hid hlen
  have hsl : s.data.toList.length = s.size := Array.length_toList
  clear hb hM hll hs hlen hL1
  go_enter Tryd.func68, Tryd.ntmps68
  go_wp2_with (first
    | (go_at_call 67; (refine (refNum_is v l L1 s.size 1 HL1.out _ _ rfl rfl _ HB.out (by decide) (by have := HS.out; omega) (by have := HS.out; omega) (by have := HL0.out; omega)).mono ?_); (rintro r w1 ⟨⟨a1, c1, rfl, ho1⟩, hb1⟩); (have HO1 := Lib.hid ho1); (have HB1 := Lib.hid hb1); (have hbs := fun wx => run_bytes_of_string (P := Tryd.prog) wx 9 27 5 s Tryd.underlying9 Tryd.underlying27 Tryd.underlying5); (have T3 := Lib.hid (bytes_of_string w1 s (by have := HS.out; unfold maxLen; omega))); (clear ho1 hb1))
    | (at_builtin; refine wpList_append_bytes rfl (.tmp 8) (.tmp 10) rfl w.heap.size _ L1 rfl (HO1.out.alloc _) _ s.data.toList rfl T3.out (by have := HL.out; have := HS.out; omega) (by have := HB1.out.size; simp; omega) ?_))
  intro v2 w2 hown hgrow _
  obtain ⟨a2, c2, rfl, -, -⟩ := hown.slice
  have hsz := HB1.out.size
  have hb2 := (HB1.out.drew.alloc hsz (.cells (bytesRow s (grownCap w1 s.size 0 5)) 5 ((bytesRow s (grownCap w1 s.size 0 5)).size, (bytesRow s (grownCap w1 s.size 0 5)).size + 1))).grown hgrow (by simp; omega) (fun j hj => (HO1.out.lt j hj).1)
  clear hbs
  have HO2 := Lib.hid hown
  have HB2 := Lib.hid hb2
  clear hown hgrow hb2
  go_wp2_with fail
  go_ret
  have e := HM.out
  have ho := HO2.out
  subst e
  exact ⟨⟨a2, c2, rfl, ho⟩, HB2.out⟩
def posD (s : Rd) : Int := if s.bad = true then -1 else (s.pos : Int)
theorem takeS_good {l : List UInt8} {p x : Nat} (hr : Fld.right (x : Int) = true) (h : p + x ≤ l.length) : takeS l (p : Int) (x : Int) = (Pg.num l p x, 0) := by
  unfold takeS
  rw [if_neg (by rintro (h1 | h1 | h1) <;> first | (rw [hr] at h1; cases h1) | omega), if_neg (by simp; omega)]
  rfl
theorem takeS_short {l : List UInt8} {p x : Nat} (h : l.length < p + x) : (takeS l (p : Int) (x : Int)).2 ≠ 0 ∧ (takeS l (p : Int) (x : Int)).2 < 10 := by
  unfold takeS
  split
  · simp
  · rw [if_pos (by simp; omega)]; simp
set_option maxRecDepth 100000 in
set_option maxHeartbeats 1000000 in
theorem refTake_is (v : Value) (l : List UInt8) (x : Nat) (s s' : Rd) (n m : Nat) (hn : numR l x s = (n, s')) (hm : (if s'.bad = true then 0 else n) = m) (P P' X : Int) (hP : posD s = P) (hP' : posD s' = P') (hX : X = (x : Int)) (w : World) (hb : BytesAt w v l) (hr : Fld.right (x : Int) = true) (hx4 : x ≤ 4) (hp : s.pos ≤ 90000000) :
    Calls Tryd.prog 75 #[v, .int .i64 P, .int .i64 X] w fun e w' => e = .returned (.tuple #[.int .i64 (m : Int), .int .i64 P']) ∧ w = w' := by
  have HB := Lib.hid hb
  have HR := Lib.hid hr
  by_cases hbad : s.bad = true
  · have hs' : s'.bad = true := by have := numR_bad (l := l) (x := x) hbad; rw [hn] at this; exact this
    have e1 : P = -1 := by rw [← hP]; unfold posD; rw [if_pos hbad]
    have e2 : P' = -1 := by rw [← hP']; unfold posD; rw [if_pos hs']
    have e3 : m = 0 := by rw [← hm, if_pos hs']
    subst e1 e2 e3
    clear hm hP hP' hX hb hr hn
    go_enter Tryd.func75, Tryd.ntmps75
    go_wp2_with fail
    go_ret2
    exact ⟨rfl, rfl⟩
  · have e1 : P = (s.pos : Int) := by rw [← hP]; unfold posD; rw [if_neg hbad]
    by_cases hat : s.pos + x ≤ l.length
    · have hn2 : numR l x s = (Pg.num l s.pos x, ⟨s.pos + x, s.bad⟩) := by unfold numR; rw [if_pos hat]
      rw [hn] at hn2
      simp only [Prod.mk.injEq] at hn2
      obtain ⟨e4, e5⟩ := hn2
      have e6 : ¬ s'.bad = true := by rw [e5]; exact hbad
      have e2 : P' = (s.pos : Int) + (x : Int) := by rw [← hP']; unfold posD; rw [if_neg e6, e5]; simp
      have e3 : m = n := by rw [← hm, if_neg e6]
      have hlt := Pg.num_lt l s.pos x
      have h2 : 256 ^ x ≤ 256 ^ 4 := Nat.pow_le_pow_right (by decide) hx4
      have h3 : (256 : Nat) ^ 4 = 4294967296 := rfl
      have h4 : takeS l P X = (n, 0) := by rw [e1, hX, takeS_good hr hat, e4]
      have hn6 : (n : Int) < 4294967296 := by rw [e4]; omega
      have hp2 : P ≤ 90000000 ∧ 0 ≤ P := by omega
      have hx2 : X ≤ 4 ∧ 0 ≤ X := by omega
      have hw : IntKind.i64.wrap (n : Int) = (n : Int) := by rw [IntKind.wrap_i64]; omega
      rw [e3]
      have e7 : P' = P + X := by rw [e2, e1, hX]
      rw [e7]
      have H4 := Lib.hid h4
      clear hm hP hP' hX hb hr hn e1 e2 e3 e4 e5 e6 e7 h4 hlt h2 h3 hat hn6
      go_enter Tryd.func75, Tryd.ntmps75
      go_wp2_with (go_at_call 93; (refine (refTake_any v l P X _ HB.out).mono ?_); (rw [H4.out]); (rintro e w1 ⟨rfl, rfl⟩))
      go_ret2
      exact ⟨rfl, rfl⟩
    · have hn2 : numR l x s = (0, ⟨s.pos + x, true⟩) := by unfold numR; rw [if_neg hat]
      rw [hn] at hn2
      simp only [Prod.mk.injEq] at hn2
      obtain ⟨e4, e5⟩ := hn2
      have e6 : s'.bad = true := by rw [e5]
      have e2 : P' = -1 := by rw [← hP']; unfold posD; rw [if_pos e6]
      have e3 : m = 0 := by rw [← hm, if_pos e6]
      subst e2 e3
      obtain ⟨k, hk⟩ : ∃ k, (takeS l P X) = k := ⟨_, rfl⟩
      have hk0 := takeS_short (l := l) (p := s.pos) (x := x) (by omega)
      rw [← e1, ← hX, hk] at hk0
      have hb0 : ((k.2 : Int) != 0) = true := by simp; exact hk0.1
      have hp2 : P ≤ 90000000 ∧ 0 ≤ P := by omega
      have HK := Lib.hid hk
      clear hm hP hP' hX hb hr hn e1 e4 e5 e6 hat hk hk0
      go_enter Tryd.func75, Tryd.ntmps75
      go_wp2_with (go_at_call 93; (refine (refTake_any v l P X _ HB.out).mono ?_); (rw [HK.out]); (rintro e w1 ⟨rfl, rfl⟩))
      go_ret2
      exact ⟨rfl, rfl⟩
end Go.Proofs.YtlobelfnjabajaaDoor

/- nodes: the document's word, one -/
namespace Go.Proofs.YtlobelfnjabajaaDoor
open Go.RowKit
set_option linter.unusedVariables false
set_option linter.unusedSimpArgs false

theorem posD_bad {s : Rd} (h : s.bad = true) : posD s = -1 := by unfold posD; rw [if_pos h]
theorem posD_good {s : Rd} (h : s.bad = false) : posD s = (s.pos : Int) := by unfold posD; rw [if_neg (by rw [h]; decide)]
theorem posD_lt (s : Rd) : posD s ≤ (s.pos : Int) := by unfold posD; split <;> omega
theorem strOf_nil (l : List UInt8) (p : Nat) : strOf l p 0 = ⟨#[]⟩ := by unfold strOf; simp
theorem bytes_addr {w : World} {a : Option Addr} {c : Nat} {l : List UInt8} (hb : BytesAt w (.slice a l.length c) l) (hl : 0 < l.length) : ∃ b o, a = some ⟨b, o, none⟩ := by
  obtain ⟨a', c', e, q1, q2, q3⟩ := hb
  obtain ⟨rfl, rfl⟩ : a = a' ∧ c = c' := by injection e with e1 e2 e3; exact ⟨e1, e3⟩
  rcases q3 with rfl | ⟨b, o, e, _⟩
  · simp at hl
  · exact ⟨b, o, e⟩
theorem bytes_cap {w : World} {a : Option Addr} {c : Nat} {l : List UInt8} (hb : BytesAt w (.slice a l.length c) l) : l.length ≤ c ∧ c ≤ 9223372036854775807 := by
  obtain ⟨a', c', e, q1, q2, q3⟩ := hb
  obtain ⟨-, rfl⟩ : _ ∧ c = c' := by injection e with e1 e2 e3; exact ⟨e1, e3⟩
  unfold maxLen at q2
  exact ⟨q1, q2⟩
set_option maxRecDepth 100000 in
set_option maxHeartbeats 1000000 in
theorem refWord_is (a : Option Addr) (c : Nat) (l : List UInt8) (s s' : Rd) (t : ByteArray) (ht : textR l s = (t, s')) (P P' : Int) (hP : posD s = P) (hP' : posD s' = P') (w : World) (hb : BytesAt w (.slice a l.length c) l) (hp : s.pos ≤ 80000000) (hl : l.length ≤ 90000000) :
    Calls Tryd.prog 77 #[.slice a l.length c, .int .i64 P] w fun e w' => e = .returned (.tuple #[.string t, .int .i64 P']) ∧ w = w' := by
  have HB := Lib.hid hb
  obtain ⟨hcl, hcm⟩ := bytes_cap hb
  obtain ⟨n, q, hq⟩ : ∃ n q, numR l 1 s = (n, q) := ⟨_, _, rfl⟩
  have HQ := Lib.hid hq
  have HP := Lib.hid hP
  have hlb : (l.length : Int) ≤ 90000000 := by omega
  unfold textR at ht
  rw [hq] at ht
  have hn6 : n < 256 := by have := numR_lt l 1 s; rw [hq] at this; exact this
  have hqp : q.pos = s.pos + 1 := by have := numR_pos l 1 s; rw [hq] at this; exact this
  cases hbad : q.bad with
  | true =>
    rw [if_pos (.inl (by simpa using hbad))] at ht
    simp only [Prod.mk.injEq] at ht
    obtain ⟨rfl, rfl⟩ := ht
    rw [posD_bad rfl] at hP'
    subst hP'
    have HQD := Lib.hid (posD_bad hbad)
    have HM := Lib.hid (show (if q.bad = true then 0 else n) = 0 by rw [hbad]; rfl)
    clear hb hq hP hbad
    go_enter Tryd.func77, Tryd.ntmps77
    go_wp2_with (go_at_call 75; (refine (refTake_is _ l 1 s q n 0 HQ.out HM.out P (-1) _ HP.out HQD.out rfl _ HB.out (by decide) (by decide) (by omega)).mono ?_); (rintro e w1 ⟨rfl, rfl⟩))
    go_ret2
    exact ⟨rfl, rfl⟩
  | false =>
    obtain ⟨p, hpq⟩ : ∃ p, q.pos = p := ⟨_, rfl⟩
    have HQD := Lib.hid (show posD q = (p : Int) by rw [posD_good hbad, hpq])
    have HM := Lib.hid (show (if q.bad = true then 0 else n) = n by rw [hbad]; rfl)
    rw [hpq] at ht hqp
    by_cases hlt : l.length < p + n
    · rw [if_pos (.inr hlt)] at ht
      simp only [Prod.mk.injEq] at ht
      obtain ⟨rfl, rfl⟩ := ht
      rw [posD_bad rfl] at hP'
      subst hP'
      have hd : (l.length : Int) - (p : Int) < (n : Int) := by omega
      have hpi : (p : Int) ≤ 90000001 := by omega
      have hp0 : (0 : Int) ≤ (p : Int) := by omega
      clear hb hq hP hbad hlt hpq hqp
      go_enter Tryd.func77, Tryd.ntmps77
      go_wp2_with (go_at_call 75; (refine (refTake_is _ l 1 s q n n HQ.out HM.out P (p : Int) _ HP.out HQD.out rfl _ HB.out (by decide) (by decide) (by omega)).mono ?_); (rintro e w1 ⟨rfl, rfl⟩))
      go_ret2
      exact ⟨rfl, rfl⟩
    · rw [if_neg (by rw [hbad]; rintro (h | h) <;> first | cases h | exact hlt h)] at ht
      simp only [Prod.mk.injEq] at ht
      obtain ⟨rfl, rfl⟩ := ht
      rw [posD_good rfl] at hP'
      subst hP'
      obtain ⟨b, o, rfl⟩ := bytes_addr hb (by omega)
      have hd : (n : Int) ≤ (l.length : Int) - (p : Int) := by omega
      have hpi : (p : Int) ≤ 90000001 := by omega
      have hni : (n : Int) < 256 := by omega
      have hp0 : (0 : Int) ≤ (p : Int) := by omega
      have hpn : p + n ≤ c := by omega
      by_cases hcp : c = p
      · subst hcp
        obtain rfl : n = 0 := by omega
        have hcv := string_of (w := w) (v := .slice (some ⟨b, o, none⟩) 0 0) (l := []) ⟨_, 0, rfl, Nat.le_refl _, Nat.zero_le _, .inl rfl⟩
        rw [strOf_nil]
        clear hb hq hP hbad hlt hpq hqp
        go_enter Tryd.func77, Tryd.ntmps77
        go_wp2_with (go_at_call 75; (refine (refTake_is _ l 1 s q 0 0 HQ.out HM.out P (c : Int) _ HP.out HQD.out rfl _ HB.out (by decide) (by decide) (by omega)).mono ?_); (rintro e w1 ⟨rfl, rfl⟩))
        go_ret2
        exact ⟨rfl, rfl⟩
      · have hcv := string_of (HB.out.cut p n (by omega))
        rw [show strOf l p n = ⟨((l.drop p).take n).toArray⟩ from rfl]
        clear hb hq hP hbad hlt hpq hqp
        go_enter Tryd.func77, Tryd.ntmps77
        go_wp2_with (go_at_call 75; (refine (refTake_is _ l 1 s q n n HQ.out HM.out P (p : Int) _ HP.out HQD.out rfl _ HB.out (by decide) (by decide) (by omega)).mono ?_); (rintro e w1 ⟨rfl, rfl⟩))
        go_ret2
        exact ⟨rfl, rfl⟩
def entV (e : Nd.Ent) : Value := .agg #[.string e.key, .string e.value, .int .i64 e.chain, .int .i64 e.size]
set_option maxRecDepth 100000 in
set_option maxHeartbeats 2000000 in
theorem refOne_is (a : Option Addr) (c : Nat) (l : List UInt8) (s s' : Rd) (E : Nd.Ent) (hE : oneR l s = (E, s')) (P P' : Int) (hP : posD s = P) (hP' : posD s' = P') (w : World) (hb : BytesAt w (.slice a l.length c) l) (hp : s.pos ≤ 70000000) (hl : l.length ≤ 90000000) :
    Calls Tryd.prog 76 #[.slice a l.length c, .int .i64 P] w fun e w' => (∃ X : Nd.Ent, e = .returned (.tuple #[entV X, .int .i64 P']) ∧ (s'.bad = false → X = E)) ∧ Below w.heap.size w w' := by
  have HB := Lib.hid hb
  obtain ⟨t, s1, h1⟩ : ∃ t s1, textR l s = (t, s1) := ⟨_, _, rfl⟩
  obtain ⟨n2, s2, h2⟩ : ∃ n s2, numR l 1 s1 = (n, s2) := ⟨_, _, rfl⟩
  have p1 : s1.pos ≤ s.pos + 256 := by have := textR_pos l s; rw [h1] at this; exact this
  have p2 : s2.pos = s1.pos + 1 := by have := numR_pos l 1 s1; rw [h2] at this; exact this
  have hk : kindR l s = (n2, s2) := by unfold kindR; rw [h1]; exact h2
  obtain ⟨m2, hm2⟩ : ∃ m, (if s2.bad = true then 0 else n2) = m := ⟨_, rfl⟩
  have H1 := Lib.hid h1
  have H2 := Lib.hid h2
  have HM2 := Lib.hid hm2
  have HP := Lib.hid hP
  by_cases hm0 : m2 = 0
  · obtain ⟨v, s3, h3⟩ : ∃ v s3, textR l s2 = (v, s3) := ⟨_, _, rfl⟩
    have H3 := Lib.hid h3
    have hfin : (posD s3 = P') ∧ (s'.bad = false → E = ⟨t, v, 0, 0⟩) := by
      unfold oneR valR chR szR at hE
      rw [hk, h1] at hE
      simp only at hE
      by_cases hn0 : n2 = 0
      · rw [if_pos hn0] at hE
        rw [h3] at hE
        simp only [Prod.mk.injEq] at hE
        obtain ⟨rfl, rfl⟩ := hE
        exact ⟨hP', fun _ => rfl⟩
      · rw [if_neg hn0] at hE
        have hbad : s2.bad = true := by
          cases hb2 : s2.bad with
          | true => rfl
          | false => rw [hb2] at hm2; simp at hm2; omega
        simp only [szR, chR] at hE
        rw [hk] at hE
        simp only [Prod.mk.injEq] at hE
        obtain ⟨-, e2⟩ := hE
        have hs' : s'.bad = true := by rw [← e2]; exact numR_bad (numR_bad hbad)
        have hs3 : s3.bad = true := by have := textR_bad (l := l) hbad; rw [h3] at this; exact this
        rw [posD_bad hs'] at hP'
        exact ⟨by rw [posD_bad hs3]; exact hP', fun h => by rw [hs'] at h; cases h⟩
    obtain ⟨hP3, hEX⟩ := hfin
    have HP3 := Lib.hid hP3
    have HEX := Lib.hid hEX
    subst hm0
    clear hb h1 h2 h3 hk hm2 hP hE hP' hP3 hEX
    go_enter Tryd.func76, Tryd.ntmps76
    go_upto_region 1 with fail
    refine wp_name fun W hW => ?_
    have HX := Lib.hid (show BoxAt W w.heap.size [.string ⟨#[]⟩, .string ⟨#[]⟩, .int .i64 0, .int .i64 0] by rw [hW]; exact BoxAt.new w [_, _, _, _] _)
    have HBW := Lib.hid (show Below w.heap.size w W by rw [hW]; go_grown)
    have HBA := Lib.hid (HB.out.below HBW.out)
    clear hW
    obtain ⟨z0, z1, z2, z3⟩ := HX.out.four
    have f0 := HX.out.free 0 _ rfl
    have f1 := HX.out.free 1 _ rfl
    have f2 := HX.out.free 2 _ rfl
    have f3 := HX.out.free 3 _ rfl
    go_wp2_with (first
      | (go_at_call 77; (have := S2.out); (refine (refWord_is _ c l s2 s3 v H3.out _ P' rfl HP3.out _ HBA.out (by omega) (by omega)).mono ?_); (rintro e w1 ⟨rfl, rfl⟩))
      | (go_at_call 75; (refine (refTake_is _ l 1 s1 s2 n2 0 H2.out HM2.out _ _ _ rfl rfl rfl _ HBA.out (by decide) (by decide) (by omega)).mono ?_); (rintro e w1 ⟨rfl, rfl⟩); (have S2 := Lib.hid True.intro))
      | (go_at_call 77; (refine (refWord_is _ c l s s1 t H1.out P _ HP.out rfl _ HBA.out (by omega) (by omega)).mono ?_); (rintro e w1 ⟨rfl, rfl⟩)))
    have hx := ((((HX.out.put 0 (.string t)).put 1 (.string v)).put 2 (.int .i64 0)).put 3 (.int .i64 0))
    obtain ⟨k0, k1, k2, k3⟩ := BoxAt.four (show BoxAt _ w.heap.size [(.string t), (.string v), (.int .i64 0), (.int .i64 0)] by simpa [List.set] using hx)
    refine bodyPost_ret (v := .tuple #[entV ⟨t, v, 0, 0⟩, .int .i64 P']) (by simp [results, Tryd.results76, go_sem, k0, k1, k2, k3, entV]) rfl ?_
    exact ⟨⟨⟨t, v, 0, 0⟩, rfl, fun h => (HEX.out h).symm⟩, by have := HBW.out; go_grown⟩
  · obtain ⟨n3, s3, h3⟩ : ∃ n s3, numR l 4 s2 = (n, s3) := ⟨_, _, rfl⟩
    obtain ⟨n4, s4, h4⟩ : ∃ n s4, numR l 4 s3 = (n, s4) := ⟨_, _, rfl⟩
    obtain ⟨m3, hm3⟩ : ∃ m, (if s3.bad = true then 0 else n3) = m := ⟨_, rfl⟩
    obtain ⟨m4, hm4⟩ : ∃ m, (if s4.bad = true then 0 else n4) = m := ⟨_, rfl⟩
    have p3 : s3.pos = s2.pos + 4 := by have := numR_pos l 4 s2; rw [h3] at this; exact this
    have hb2 : s2.bad = false := by
      cases hb2 : s2.bad with
      | false => rfl
      | true => rw [hb2] at hm2; simp at hm2; omega
    have hmn : m2 = n2 := by rw [← hm2, hb2]; rfl
    have hfin : (posD s4 = P') ∧ (s'.bad = false → E = ⟨t, ⟨#[]⟩, (m3 : Int), (m4 : Int)⟩) := by
      unfold oneR szR chR at hE
      rw [hk, h1] at hE
      simp only at hE
      rw [if_neg (by omega), h3] at hE
      simp only at hE
      rw [h4] at hE
      simp only [Prod.mk.injEq] at hE
      obtain ⟨rfl, rfl⟩ := hE
      refine ⟨hP', fun h => ?_⟩
      have h5 := numR_good (l := l) (x := 4) (s := s3) (by rw [h4]; exact h)
      have e4 : m4 = n4 := by rw [← hm4, h]; rfl
      have e3 : m3 = n3 := by rw [← hm3, h5.1]; rfl
      rw [e3, e4]
    obtain ⟨hP3, hEX⟩ := hfin
    have hm0b : ((m2 : Int) == 0) = false := by simp; exact hm0
    have H3 := Lib.hid h3
    have H4 := Lib.hid h4
    have HM3 := Lib.hid hm3
    have HM4 := Lib.hid hm4
    have HP3 := Lib.hid hP3
    have HEX := Lib.hid hEX
    clear hb h1 h2 h3 h4 hk hm2 hm3 hm4 hP hE hP' hP3 hEX hmn hb2 hm0
    go_enter Tryd.func76, Tryd.ntmps76
    go_upto_region 1 with fail
    refine wp_name fun W hW => ?_
    have HX := Lib.hid (show BoxAt W w.heap.size [.string ⟨#[]⟩, .string ⟨#[]⟩, .int .i64 0, .int .i64 0] by rw [hW]; exact BoxAt.new w [_, _, _, _] _)
    have HBW := Lib.hid (show Below w.heap.size w W by rw [hW]; go_grown)
    have HBA := Lib.hid (HB.out.below HBW.out)
    clear hW
    obtain ⟨z0, z1, z2, z3⟩ := HX.out.four
    have f0 := HX.out.free 0 _ rfl
    have f1 := HX.out.free 1 _ rfl
    have f2 := HX.out.free 2 _ rfl
    have f3 := HX.out.free 3 _ rfl
    go_wp2_with (first
      | (go_at_call 75; (have := S3.out); (refine (refTake_is _ l 4 s3 s4 n4 m4 H4.out HM4.out _ P' _ rfl HP3.out rfl _ HBA.out (by decide) (by decide) (by omega)).mono ?_); (rintro e w1 ⟨rfl, rfl⟩))
      | (go_at_call 75; (have := S2.out); (refine (refTake_is _ l 4 s2 s3 n3 m3 H3.out HM3.out _ _ _ rfl rfl rfl _ HBA.out (by decide) (by decide) (by omega)).mono ?_); (rintro e w1 ⟨rfl, rfl⟩); (have S3 := Lib.hid True.intro))
      | (go_at_call 75; (refine (refTake_is _ l 1 s1 s2 n2 m2 H2.out HM2.out _ _ _ rfl rfl rfl _ HBA.out (by decide) (by decide) (by omega)).mono ?_); (rintro e w1 ⟨rfl, rfl⟩); (have S2 := Lib.hid True.intro))
      | (go_at_call 77; (refine (refWord_is _ c l s s1 t H1.out P _ HP.out rfl _ HBA.out (by omega) (by omega)).mono ?_); (rintro e w1 ⟨rfl, rfl⟩)))
    have hx := ((((HX.out.put 0 (.string t)).put 1 (.string ⟨#[]⟩)).put 2 (.int .i64 (m3 : Int))).put 3 (.int .i64 (m4 : Int)))
    obtain ⟨k0, k1, k2, k3⟩ := BoxAt.four (show BoxAt _ w.heap.size [(.string t), (.string ⟨#[]⟩), (.int .i64 (m3 : Int)), (.int .i64 (m4 : Int))] by simpa [List.set] using hx)
    refine bodyPost_ret (v := .tuple #[entV ⟨t, ⟨#[]⟩, (m3 : Int), (m4 : Int)⟩, .int .i64 P']) (by simp [results, Tryd.results76, go_sem, k0, k1, k2, k3, entV]) rfl ?_
    exact ⟨⟨⟨t, ⟨#[]⟩, (m3 : Int), (m4 : Int)⟩, rfl, fun h => (HEX.out h).symm⟩, by have := HBW.out; go_grown⟩
end Go.Proofs.YtlobelfnjabajaaDoor

/- nodes: the document's Bytes -/
namespace Go.Proofs.YtlobelfnjabajaaDoor
open Go.RowKit
set_option linter.unusedVariables false
set_option linter.unusedSimpArgs false

set_option maxRecDepth 100000 in
set_option maxHeartbeats 1000000 in
theorem refBytes_leaf (es : List Nd.Ent) (ks : List ByteArray) (ki : List Int) (hn : nodeB true es ks ki = true) (a1 a2 a3 : Option Addr) (c1 c2 c3 : Nat) (w : World) (h1 : RowAt eEnt w (.slice a1 es.length c1) es) :
    Calls Tryd.prog 27 #[.agg #[.bool true, .slice a1 es.length c1, .slice a2 ks.length c2, .slice a3 ki.length c3]] w fun e w' => (∃ a c, e = .returned (.slice a (nodeL true es ks ki).length c) ∧ Own w' w.heap.size (.slice a (nodeL true es ks ki).length c) (nodeL true es ks ki)) ∧ Below w.heap.size w w' := by
  have hnb := hn
  unfold nodeB leafB at hnb
  simp at hnb
  obtain ⟨⟨hek, -, -, -⟩, hel⟩ := hnb
  have hfew := ents_few hek
  have H1 := Lib.hid h1
  have HEK := Lib.hid hek
  have HFEW := Lib.hid hfew
  have HNL := Lib.hid (show nodeL true es ks ki = Fld.le 2 es.length ++ entsL es es.length from rfl)
  clear h1 hn hek hfew
  go_enter Tryd.func27, Tryd.ntmps27
  go_upto_region 1 with fail
  refine wp_name fun W hW => ?_
  have HX := Lib.hid (show BoxAt W w.heap.size [.bool true, .slice a1 es.length c1, .slice a2 ks.length c2, .slice a3 ki.length c3] by rw [hW]; exact BoxAt.new w [_, _, _, _] _)
  have HB := Lib.hid (show Below w.heap.size w W by rw [hW]; go_grown)
  clear hW
  obtain ⟨m0, m1, m2, m3⟩ := HX.out.four
  have hlt0 := HX.out.lt
  have hne1 : ¬ w.heap.size = W.heap.size := Nat.ne_of_lt hlt0
  have hne2 : ¬ W.heap.size = w.heap.size := Nat.ne_of_gt hlt0
  go_wp2_with (go_at_call 67; (refine (refNum_is _ [] (Fld.le 2 es.length) es.length 2 rfl _ _ rfl rfl _ (Own.empty W 0 (Nat.zero_le _)).bytes (by decide) (show es.length < 65536 by omega) (by omega) (by simp)).mono ?_); (rintro r w1 ⟨⟨a, c, rfl, ho1⟩, hb1⟩); (have HO1 := Lib.hid (ho1.mono (b2 := w.heap.size) (by have := HB.out.size; simp; omega))); (have HB1 := Lib.hid (below_step (HB.out.alloc HB.out.size _) hb1)); (have HX1 := Lib.hid ((HX.out.alloc _).below hb1)); (clear ho1 hb1 m0 m1 m2 m3); (obtain ⟨m0, m1, m2, m3⟩ := HX1.out.four))
  go_loopw [3, 4] (fun b i wr => ∃ k a c, k ≤ es.length ∧ i = .int .i64 (k : Nat) ∧ b = .slice a (Fld.le 2 es.length ++ entsL es k).length c ∧ Own wr w.heap.size (.slice a (Fld.le 2 es.length ++ entsL es k).length c) (Fld.le 2 es.length ++ entsL es k) ∧ BoxAt wr w.heap.size [.bool true, .slice a1 es.length c1, .slice a2 ks.length c2, .slice a3 ki.length c3] ∧ Below w.heap.size w wr) (fun _ i _ => es.length - (intOf i).toNat)
  case atStart => exact ⟨0, a, c, by omega, rfl, by rw [entsL, List.append_nil], by rw [entsL, List.append_nil]; exact HO1.out, HX1.out, HB1.out⟩
  case round =>
    obtain ⟨k, a, c, hk, rfl, rfl, how, hbx, hbr⟩ := hrel
    have HBX := Lib.hid hbx
    have HBR := Lib.hid hbr
    have HOW := Lib.hid how
    clear m0 m1 m2 m3 how hbx hbr
    obtain ⟨m0, m1, m2, m3⟩ := HBX.out.four
    by_cases hlt : k < es.length
    · obtain ⟨e, he⟩ := getElem?_some_of_lt hlt
      obtain ⟨b1, o1, rfl, e0, e1, e2, e3⟩ := ent_cells (H1.out.below HBR.out) he
      have hlt1 : (k : Int) < (es.length : Int) := by omega
      have hEL : entsL es (k + 1) = entsL es k ++ entL e := by rw [entsL, he]
      have hle : (Fld.le 2 es.length ++ entsL es k).length ≤ 7000000 := by
        rw [List.length_append, Fld.le_length, entsL_weight]
        have := entsW_le HFEW.out k
        omega
      have heb := entsK_at HEK.out hlt he
      have HEL := Lib.hid hEL
      have HE := Lib.hid he
      clear he hEL
      obtain ⟨L0, hL0⟩ : ∃ L0, Fld.le 2 es.length ++ entsL es k = L0 := ⟨_, rfl⟩
      have HL0 := Lib.hid hL0
      rw [hL0] at HOW hle
      try rw [hL0]
      clear hL0
      by_cases hc : e.chain = 0
      · obtain ⟨-, z1, z2⟩ := ent_eq heb hc
        have HEE := Lib.hid (show entL e = txtL e.key ++ (Fld.le 1 0 ++ txtL e.value) by unfold entL; rw [if_pos hc])
        have hcb : (e.chain == 0) = true := by simpa using hc
        have t1 : (txtL e.key).length ≤ 40 := by rw [txtL_length]; omega
        clear hc heb
        obtain ⟨M1, hM1⟩ : ∃ m, L0 ++ txtL e.key = m := ⟨_, rfl⟩
        have lM1 : M1.length ≤ 7000100 := by rw [← hM1]; simp only [List.length_append, Fld.le_length, txtL_length]; omega
        have HM1 := Lib.hid hM1
        obtain ⟨M2, hM2⟩ : ∃ m, M1 ++ Fld.le 1 0 = m := ⟨_, rfl⟩
        have lM2 : M2.length ≤ 7000200 := by rw [← hM2]; simp only [List.length_append, Fld.le_length, txtL_length]; omega
        have HM2 := Lib.hid hM2
        obtain ⟨M3, hM3⟩ : ∃ m, M2 ++ txtL e.value = m := ⟨_, rfl⟩
        have lM3 : M3.length ≤ 7000300 := by rw [← hM3]; simp only [List.length_append, Fld.le_length, txtL_length]; omega
        have HM3 := Lib.hid hM3
        clear hM1 hM2 hM3
        go_upto_region 8 with (go_at_call 68; (refine (refText_is _ L0 M1 e.key HM1.out _ HOW.out.bytes (by omega) (by omega)).mono ?_); (rintro r3 w3 ⟨⟨a3', c3', rfl, ho3⟩, hb3⟩); (have HO3 := Lib.hid (ho3.mono (b2 := w.heap.size) HBR.out.size)); (have HB3 := Lib.hid (below_step HBR.out hb3)); (have HX3 := Lib.hid (HBX.out.below hb3)); (clear ho3 hb3 m0 m1 m2 m3 e0 e1 e2 e3); (obtain ⟨m0, m1, m2, m3⟩ := HX3.out.four); (obtain ⟨b2, o2, q1, e0, e1, e2, e3⟩ := ent_cells (H1.out.below HB3.out) HE.out); (obtain ⟨rfl, rfl⟩ : b1 = b2 ∧ o1 = o2 := by simpa using q1); (clear q1))
        have p0 := Near.cell (w := w3.drew) (row := none) m0 (by simp)
        have p1 := Near.cell (w := w3.drew) (row := none) m1 (by simp)
        have p2 := Near.cell (w := w3.drew) (row := none) m2 (by simp)
        have p3 := Near.cell (w := w3.drew) (row := none) m3 (by simp)
        have q0 := Near.cell (w := w3.drew) (row := none) e0 (by simp)
        have q1 := Near.cell (w := w3.drew) (row := none) e1 (by simp)
        have q2 := Near.cell (w := w3.drew) (row := none) e2 (by simp)
        have q3 := Near.cell (w := w3.drew) (row := none) e3 (by simp)
        refine wp_region_mix (fun w' => ∃ x : Near w3.drew none, w' = x.world) [] 10 (by kernel_rfl) rfl ?_
        refine mix_reads_lit [0, 2, 3, 4, 5, 6, 7] 3 (by kernel_rfl) (by kernel_rfl) (by kernel_rfl) (by kernel_rfl) rfl (NearC.of (World.grownBy.refl _ _)) ?_
        simp only [pick, List.filterMap_cons, List.filterMap_nil, List.getElem?_cons_succ, List.getElem?_cons_zero]
        repeat (first | go_big_quiet_step (fail) | quiet_step (fail))
        refine wpQuiet_nil ?_
        refine mix_deed_lit 1 2 (by kernel_rfl) (by kernel_rfl) rfl (fun K hK => ?_)
        simp only [comesUp, List.getElem?_cons_succ, List.getElem?_cons_zero]
        refine if_mk rfl ?_
        go_simp
        refine (refNum_is _ M1 M2 0 1 HM2.out _ _ rfl rfl _ (show BytesAt w3.drew _ _ from HO3.out.bytes) (by decide) (by decide) (by decide) (by omega)).mono ?_
        rintro r4 w4 ⟨⟨a4, c4, rfl, ho4⟩, hb4⟩
        have gb_w4 : w3.drew.grownBy w4 none := grown_of_below hb4 (Nat.le_refl _) _
        refine hK _ _ (fun _ _ => NearC.of gb_w4) ?_
        clear hK K
        refine mix_deed_lit 8 1 (by kernel_rfl) (by kernel_rfl) rfl (fun K hK => ?_)
        simp only [comesUp, List.getElem?_cons_succ, List.getElem?_cons_zero]
        refine if_mk rfl ?_
        go_simp
        refine (refText_is _ M2 M3 e.value HM3.out _ ho4.bytes (by omega) (by omega)).mono ?_
        rintro r5 w5 ⟨⟨a5, c5, rfl, ho5⟩, hb5⟩
        have gb_w5 : w3.drew.grownBy w5 none := grown_trans gb_w4 (grown_of_below hb5 (Nat.le_refl _) _)
        refine hK _ _ (fun _ _ => NearC.of gb_w5) ?_
        clear hK K
        refine mix_flat_lit [9] 0 (by kernel_rfl) (by kernel_rfl) (by kernel_rfl) (by kernel_rfl) rfl ?_
        simp only [pick, List.filterMap_cons, List.filterMap_nil, List.getElem?_cons_succ, List.getElem?_cons_zero]
        repeat (first | go_big_quiet_step (fail) | quiet_step (fail))
        refine wpQuiet_nil ?_
        refine mix_done_lit (by kernel_rfl) ?_
        have HB5 := Lib.hid (below_step HB3.out.drew (grown_below gb_w5 (by simp) (Nat.le_refl _)))
        have HX5 := Lib.hid (HX3.out.below ((Below.refl _ _).drew.trans (grown_below gb_w5 (by simp) (Nat.le_refl _))))
        have HO5 := Lib.hid (ho5.mono (b2 := w.heap.size) (Nat.le_trans HB3.out.size gb_w4.size))
        clear ho4 ho5 hb4 hb5 gb_w4 gb_w5 p0 p1 p2 p3 q0 q1 q2 q3
        go_wp2_with fail
        go_roundw
        case rel =>
          have hL : Fld.le 2 es.length ++ entsL es (k + 1) = M3 := by rw [HEL.out, HEE.out, ← HM3.out, ← HM2.out, ← HM1.out, ← HL0.out]; simp only [List.append_assoc]
          exact ⟨k + 1, a5, c5, by omega, by go_num, by rw [hL], by rw [hL]; exact HO5.out, HX5.out, HB5.out⟩
        case measure => simp [intOf]; omega
      · obtain ⟨z0, z1, z2, z3, z4⟩ := ent_eq2 heb hc
        have HEE := Lib.hid (show entL e = txtL e.key ++ (Fld.le 1 1 ++ (Fld.le 4 e.chain.toNat ++ Fld.le 4 e.size.toNat)) by unfold entL; rw [if_neg hc])
        have hch : e.chain = (e.chain.toNat : Int) := congrArg Nd.Ent.chain z0
        have hsz : e.size = (e.size.toNat : Int) := congrArg Nd.Ent.size z0
        have hcb : (e.chain == 0) = false := by simpa using hc
        have t1 : (txtL e.key).length ≤ 40 := by rw [txtL_length]; omega
        have HCH := Lib.hid hch
        have HSZ := Lib.hid hsz
        clear hc heb z0 hch hsz
        obtain ⟨M1, hM1⟩ : ∃ m, L0 ++ txtL e.key = m := ⟨_, rfl⟩
        have lM1 : M1.length ≤ 7000100 := by rw [← hM1]; simp only [List.length_append, Fld.le_length, txtL_length]; omega
        have HM1 := Lib.hid hM1
        obtain ⟨M2, hM2⟩ : ∃ m, M1 ++ Fld.le 1 1 = m := ⟨_, rfl⟩
        have lM2 : M2.length ≤ 7000200 := by rw [← hM2]; simp only [List.length_append, Fld.le_length, txtL_length]; omega
        have HM2 := Lib.hid hM2
        obtain ⟨M3, hM3⟩ : ∃ m, M2 ++ Fld.le 4 e.chain.toNat = m := ⟨_, rfl⟩
        have lM3 : M3.length ≤ 7000300 := by rw [← hM3]; simp only [List.length_append, Fld.le_length, txtL_length]; omega
        have HM3 := Lib.hid hM3
        obtain ⟨M4, hM4⟩ : ∃ m, M3 ++ Fld.le 4 e.size.toNat = m := ⟨_, rfl⟩
        have lM4 : M4.length ≤ 7000400 := by rw [← hM4]; simp only [List.length_append, Fld.le_length, txtL_length]; omega
        have HM4 := Lib.hid hM4
        clear hM1 hM2 hM3 hM4
        go_upto_region 9 with (go_at_call 68; (refine (refText_is _ L0 M1 e.key HM1.out _ HOW.out.bytes (by omega) (by omega)).mono ?_); (rintro r3 w3 ⟨⟨a3', c3', rfl, ho3⟩, hb3⟩); (have HO3 := Lib.hid (ho3.mono (b2 := w.heap.size) HBR.out.size)); (have HB3 := Lib.hid (below_step HBR.out hb3)); (have HX3 := Lib.hid (HBX.out.below hb3)); (clear ho3 hb3 m0 m1 m2 m3 e0 e1 e2 e3); (obtain ⟨m0, m1, m2, m3⟩ := HX3.out.four); (obtain ⟨b2, o2, q1, e0, e1, e2, e3⟩ := ent_cells (H1.out.below HB3.out) HE.out); (obtain ⟨rfl, rfl⟩ : b1 = b2 ∧ o1 = o2 := by simpa using q1); (clear q1))
        have p0 := Near.cell (w := w3.drew) (row := none) m0 (by simp)
        have p1 := Near.cell (w := w3.drew) (row := none) m1 (by simp)
        have p2 := Near.cell (w := w3.drew) (row := none) m2 (by simp)
        have p3 := Near.cell (w := w3.drew) (row := none) m3 (by simp)
        have q0 := Near.cell (w := w3.drew) (row := none) e0 (by simp)
        have q1 := Near.cell (w := w3.drew) (row := none) e1 (by simp)
        have q2 := Near.cell (w := w3.drew) (row := none) e2 (by simp)
        have q3 := Near.cell (w := w3.drew) (row := none) e3 (by simp)
        refine wp_region_mix (fun w' => ∃ x : Near w3.drew none, w' = x.world) [] 17 (by kernel_rfl) rfl ?_
        refine mix_reads_lit [0, 2, 3, 4, 5, 6, 7, 9, 10, 11, 12, 13, 14] 4 (by kernel_rfl) (by kernel_rfl) (by kernel_rfl) (by kernel_rfl) rfl (NearC.of (World.grownBy.refl _ _)) ?_
        simp only [pick, List.filterMap_cons, List.filterMap_nil, List.getElem?_cons_succ, List.getElem?_cons_zero]
        repeat (first | go_big_quiet_step (fail) | quiet_step (fail))
        refine wpQuiet_nil ?_
        refine mix_deed_lit 1 3 (by kernel_rfl) (by kernel_rfl) rfl (fun K hK => ?_)
        simp only [comesUp, List.getElem?_cons_succ, List.getElem?_cons_zero]
        refine if_mk rfl ?_
        go_simp
        refine (refNum_is _ M1 M2 1 1 HM2.out _ _ rfl rfl _ (show BytesAt w3.drew _ _ from HO3.out.bytes) (by decide) (by decide) (by decide) (by omega)).mono ?_
        rintro r4 w4 ⟨⟨a4, c4, rfl, ho4⟩, hb4⟩
        have gb_w4 : w3.drew.grownBy w4 none := grown_of_below hb4 (Nat.le_refl _) _
        refine hK _ _ (fun _ _ => NearC.of gb_w4) ?_
        clear hK K
        refine mix_deed_lit 8 2 (by kernel_rfl) (by kernel_rfl) rfl (fun K hK => ?_)
        simp only [comesUp, List.getElem?_cons_succ, List.getElem?_cons_zero]
        refine if_mk rfl ?_
        go_simp
        refine (refNum_is _ M2 M3 e.chain.toNat 4 HM3.out _ _ HCH.out rfl _ ho4.bytes (by decide) (show e.chain.toNat < 4294967296 by omega) (by omega) (by omega)).mono ?_
        rintro r5 w5 ⟨⟨a5, c5, rfl, ho5⟩, hb5⟩
        have gb_w5 : w3.drew.grownBy w5 none := grown_trans gb_w4 (grown_of_below hb5 (Nat.le_refl _) _)
        refine hK _ _ (fun _ _ => NearC.of gb_w5) ?_
        clear hK K
        refine mix_deed_lit 15 1 (by kernel_rfl) (by kernel_rfl) rfl (fun K hK => ?_)
        simp only [comesUp, List.getElem?_cons_succ, List.getElem?_cons_zero]
        refine if_mk rfl ?_
        go_simp
        refine (refNum_is _ M3 M4 e.size.toNat 4 HM4.out _ _ HSZ.out rfl _ ho5.bytes (by decide) (show e.size.toNat < 4294967296 by omega) (by omega) (by omega)).mono ?_
        rintro r6 w6 ⟨⟨a6, c6, rfl, ho6⟩, hb6⟩
        have gb_w6 : w3.drew.grownBy w6 none := grown_trans gb_w5 (grown_of_below hb6 (Nat.le_refl _) _)
        refine hK _ _ (fun _ _ => NearC.of gb_w6) ?_
        clear hK K
        refine mix_flat_lit [16] 0 (by kernel_rfl) (by kernel_rfl) (by kernel_rfl) (by kernel_rfl) rfl ?_
        simp only [pick, List.filterMap_cons, List.filterMap_nil, List.getElem?_cons_succ, List.getElem?_cons_zero]
        repeat (first | go_big_quiet_step (fail) | quiet_step (fail))
        refine wpQuiet_nil ?_
        refine mix_done_lit (by kernel_rfl) ?_
        have HB6 := Lib.hid (below_step HB3.out.drew (grown_below gb_w6 (by simp) (Nat.le_refl _)))
        have HX6 := Lib.hid (HX3.out.below ((Below.refl _ _).drew.trans (grown_below gb_w6 (by simp) (Nat.le_refl _))))
        have HO6 := Lib.hid (ho6.mono (b2 := w.heap.size) (Nat.le_trans HB3.out.size gb_w5.size))
        clear ho4 ho5 ho6 hb4 hb5 hb6 gb_w4 gb_w5 gb_w6 p0 p1 p2 p3 q0 q1 q2 q3
        go_wp2_with fail
        go_roundw
        case rel =>
          have hL : Fld.le 2 es.length ++ entsL es (k + 1) = M4 := by rw [HEL.out, HEE.out, ← HM4.out, ← HM3.out, ← HM2.out, ← HM1.out, ← HL0.out]; simp only [List.append_assoc]
          exact ⟨k + 1, a6, c6, by omega, by go_num, by rw [hL], by rw [hL]; exact HO6.out, HX6.out, HB6.out⟩
        case measure => simp [intOf]; omega
    · have hkk : k = es.length := by omega
      subst hkk
      rw [← HNL.out] at HOW
      try rw [← HNL.out]
      go_wp2_with fail
      go_ret
      exact ⟨⟨a, c, by first | rfl | rw [HNL.out], HOW.out⟩, HBR.out⟩
set_option maxRecDepth 100000 in
set_option maxHeartbeats 1000000 in
theorem refBytes_inner (es : List Nd.Ent) (ks : List ByteArray) (ki : List Int) (hn : nodeB false es ks ki = true) (a1 a2 a3 : Option Addr) (c1 c2 c3 : Nat) (w : World) (h2 : RowAt eStr w (.slice a2 ks.length c2) ks) (h3 : IntsAt w (.slice a3 ki.length c3) ki) :
    Calls Tryd.prog 27 #[.agg #[.bool false, .slice a1 es.length c1, .slice a2 ks.length c2, .slice a3 ki.length c3]] w fun e w' => (∃ a c, e = .returned (.slice a (nodeL false es ks ki).length c) ∧ Own w' w.heap.size (.slice a (nodeL false es ks ki).length c) (nodeL false es ks ki)) ∧ Below w.heap.size w w' := by
  have hnb := hn
  unfold nodeB innerB at hnb
  simp at hnb
  obtain ⟨⟨⟨-, hk2, hkl, hk256⟩, hki, hks, -⟩, -⟩ := hnb
  obtain ⟨x0, hx0⟩ := getElem?_some_of_lt (show 0 < ki.length by omega)
  have hxb := kidB_bd (kidsK_at hki (by omega) hx0).1
  obtain ⟨n0, rfl⟩ : ∃ n : Nat, x0 = (n : Int) := ⟨x0.toNat, by omega⟩
  have hg0 : (ki.getD 0 0).toNat = n0 := by simp [hx0]
  have H2 := Lib.hid h2
  have H3 := Lib.hid h3
  have HKI := Lib.hid hki
  have HKS := Lib.hid hks
  have HKL := Lib.hid hkl
  have HX0 := Lib.hid hx0
  have HNL := Lib.hid (show nodeL false es ks ki = Fld.le 2 ki.length ++ Fld.le 4 n0 ++ keysL ks ki ks.length by rw [← hg0, List.append_assoc]; rfl)
  have hks255 : ks.length ≤ 255 := by omega
  clear h2 h3 hn hki hks hkl hg0 hx0
  go_enter Tryd.func27, Tryd.ntmps27
  go_upto_region 1 with fail
  refine wp_name fun W hW => ?_
  have HX := Lib.hid (show BoxAt W w.heap.size [.bool false, .slice a1 es.length c1, .slice a2 ks.length c2, .slice a3 ki.length c3] by rw [hW]; exact BoxAt.new w [_, _, _, _] _)
  have HB := Lib.hid (show Below w.heap.size w W by rw [hW]; go_grown)
  clear hW
  obtain ⟨m0, m1, m2, m3⟩ := HX.out.four
  obtain ⟨b3, o3, rfl, z0⟩ := int_cellR (H3.out.below HB.out) HX0.out
  rw [Nat.add_zero] at z0
  have hk0 : (0 : Int) < (ki.length : Int) := by omega
  have hk0n : 0 < ki.length := by omega
  obtain ⟨N1, hN1⟩ : ∃ m, [] ++ Fld.le 2 ki.length = m := ⟨_, rfl⟩
  have lN1 : N1.length ≤ 2 := by rw [← hN1]; simp [Fld.le_length]
  have HN1 := Lib.hid hN1
  obtain ⟨N2, hN2⟩ : ∃ m, N1 ++ Fld.le 4 n0 = m := ⟨_, rfl⟩
  have lN2 : N2.length ≤ 6 := by rw [← hN2]; simp only [List.length_append, Fld.le_length, txtL_length]; omega
  have HN2 := Lib.hid hN2
  clear hN1 hN2
  go_upto_region 11 with fail
  have p0 := Near.cell (w := W.drew) (row := none) m0 (by simp)
  have p1 := Near.cell (w := W.drew) (row := none) m1 (by simp)
  have p2 := Near.cell (w := W.drew) (row := none) m2 (by simp)
  have p3 := Near.cell (w := W.drew) (row := none) m3 (by simp)
  have q0 := Near.cell (w := W.drew) (row := none) z0 (by simp)
  refine wp_region_mix (fun w' => ∃ x : Near W.drew none, w' = x.world) [] 11 (by kernel_rfl) rfl ?_
  refine mix_reads_lit [1, 2, 3, 5, 6, 7, 8] 4 (by kernel_rfl) (by kernel_rfl) (by kernel_rfl) (by kernel_rfl) rfl (NearC.of (World.grownBy.refl _ _)) ?_
  simp only [pick, List.filterMap_cons, List.filterMap_nil, List.getElem?_cons_succ, List.getElem?_cons_zero]
  repeat (first | go_big_quiet_step (fail) | quiet_step (fail))
  refine wpQuiet_nil ?_
  refine mix_deed_lit 0 3 (by kernel_rfl) (by kernel_rfl) rfl (fun K hK => ?_)
  simp only [comesUp, List.getElem?_cons_succ, List.getElem?_cons_zero]
  refine if_mk rfl ?_
  go_simp
  have e0 : Own (W.alloc (.cells #[] 5)).drew 0 (.slice (some ⟨W.heap.size, 0, none⟩) 0 0) [] := Own.empty W.drew 0 (Nat.zero_le _)
  have gb_e0 : W.drew.grownBy (W.alloc (.cells #[] 5)).drew none := grown_alloc W.drew none (.cells #[] 5)
  refine hK _ _ (fun _ _ => NearC.of gb_e0) ?_
  clear hK K
  refine mix_deed_lit 4 2 (by kernel_rfl) (by kernel_rfl) rfl (fun K hK => ?_)
  simp only [comesUp, List.getElem?_cons_succ, List.getElem?_cons_zero]
  refine if_mk rfl ?_
  go_simp
  refine (refNum_is _ [] N1 ki.length 2 HN1.out _ _ rfl rfl _ e0.bytes (by decide) (show ki.length < 65536 by omega) (by omega) (by simp)).mono ?_
  rintro r1 w1 ⟨⟨a0, c0, rfl, ho1⟩, hb1⟩
  have gb_w1 : W.drew.grownBy w1 none := grown_trans gb_e0 (grown_of_below hb1 (Nat.le_refl _) _)
  refine hK _ _ (fun _ _ => NearC.of gb_w1) ?_
  clear hK K
  refine mix_deed_lit 9 1 (by kernel_rfl) (by kernel_rfl) rfl (fun K hK => ?_)
  simp only [comesUp, List.getElem?_cons_succ, List.getElem?_cons_zero]
  refine if_mk rfl ?_
  go_simp
  refine (refNum_is _ N1 N2 n0 4 HN2.out _ _ rfl rfl _ ho1.bytes (by decide) (show n0 < 4294967296 by omega) (by omega) (by omega)).mono ?_
  rintro r2 w2 ⟨⟨a, c, rfl, ho2⟩, hb2⟩
  have gb_w2 : W.drew.grownBy w2 none := grown_trans gb_w1 (grown_of_below hb2 (Nat.le_refl _) _)
  refine hK _ _ (fun _ _ => NearC.of gb_w2) ?_
  clear hK K
  refine mix_flat_lit [10] 0 (by kernel_rfl) (by kernel_rfl) (by kernel_rfl) (by kernel_rfl) rfl ?_
  simp only [pick, List.filterMap_cons, List.filterMap_nil, List.getElem?_cons_succ, List.getElem?_cons_zero]
  repeat (first | go_big_quiet_step (fail) | quiet_step (fail))
  refine wpQuiet_nil ?_
  refine mix_done_lit (by kernel_rfl) ?_
  have HB2 := Lib.hid (below_step HB.out.drew (grown_below gb_w2 (by simp) (Nat.le_refl _)))
  have HX2 := Lib.hid (HX.out.below ((Below.refl _ _).drew.trans (grown_below gb_w2 (by simp) (Nat.le_refl _))))
  have HO2 := Lib.hid (ho2.mono (b2 := w.heap.size) (Nat.le_trans HB.out.size gb_w1.size))
  clear ho1 ho2 hb1 hb2 gb_w1 gb_w2 gb_e0 e0 p0 p1 p2 p3 q0 m0 m1 m2 m3 z0
  obtain ⟨m0, m1, m2, m3⟩ := HX2.out.four
  go_wp2_with fail
  go_loopw [5, 6] (fun b i wr => ∃ k a c, k ≤ ks.length ∧ i = .int .i64 (k : Nat) ∧ b = .slice a (Fld.le 2 ki.length ++ Fld.le 4 n0 ++ keysL ks ki k).length c ∧ Own wr w.heap.size (.slice a (Fld.le 2 ki.length ++ Fld.le 4 n0 ++ keysL ks ki k).length c) (Fld.le 2 ki.length ++ Fld.le 4 n0 ++ keysL ks ki k) ∧ BoxAt wr w.heap.size [.bool false, .slice a1 es.length c1, .slice a2 ks.length c2, .slice (some ⟨b3, o3, none⟩) ki.length c3] ∧ Below w.heap.size w wr) (fun _ i _ => ks.length - (intOf i).toNat)
  case atStart => exact ⟨0, a, c, by omega, rfl, by rw [keysL, List.append_nil, show Fld.le 2 ki.length ++ Fld.le 4 n0 = N2 by rw [← HN2.out, ← HN1.out]; rfl], by rw [keysL, List.append_nil, show Fld.le 2 ki.length ++ Fld.le 4 n0 = N2 by rw [← HN2.out, ← HN1.out]; rfl]; exact HO2.out, HX2.out, HB2.out⟩
  case round =>
    obtain ⟨k, a, c, hk, rfl, rfl, how, hbx, hbr⟩ := hrel
    have HBX := Lib.hid hbx
    have HBR := Lib.hid hbr
    have HOW := Lib.hid how
    clear m0 m1 m2 m3 how hbx hbr
    obtain ⟨m0, m1, m2, m3⟩ := HBX.out.four
    by_cases hlt : k < ks.length
    · obtain ⟨s, hs⟩ := getElem?_some_of_lt hlt
      obtain ⟨x, hx⟩ := getElem?_some_of_lt (show k + 1 < ki.length by have := HKL.out; omega)
      obtain ⟨b2, o2, rfl, e0⟩ := str_cell (H2.out.below HBR.out) hs
      have hkb := keyB_bd (keysK_at HKS.out hlt hs)
      have hcb := kidB_bd (kidsK_at HKI.out (by have := HKL.out; omega) hx).1
      obtain ⟨n, rfl⟩ : ∃ n : Nat, x = (n : Int) := ⟨x.toNat, by omega⟩
      have hlt1 : (k : Int) < (ks.length : Int) := by omega
      have hlt2 : (k : Int) + 1 < (ki.length : Int) := by have := HKL.out; omega
      have hEL : keysL ks ki (k + 1) = keysL ks ki k ++ (txtL s ++ Fld.le 4 n) := by rw [keysL, hs]; simp [hx]
      have hle : (Fld.le 2 ki.length ++ Fld.le 4 n0 ++ keysL ks ki k).length ≤ 7000000 := by
        rw [List.length_append, List.length_append, Fld.le_length, Fld.le_length, keysL_weight]
        have := keysW_le (l := ks) (fun j e he => (keyB_bd (keysK_at HKS.out (List.getElem?_eq_some_iff.1 he).1 he)).2) k
        omega
      have HEL := Lib.hid hEL
      have HXN := Lib.hid hx
      clear hs hEL hx
      obtain ⟨L0, hL0⟩ : ∃ L0, Fld.le 2 ki.length ++ Fld.le 4 n0 ++ keysL ks ki k = L0 := ⟨_, rfl⟩
      have HL0 := Lib.hid hL0
      rw [hL0] at HOW hle
      try rw [hL0]
      have t1 : (txtL s).length ≤ 40 := by rw [txtL_length]; omega
      clear hL0
      obtain ⟨M1, hM1⟩ : ∃ m, L0 ++ txtL s = m := ⟨_, rfl⟩
      have lM1 : M1.length ≤ 7000100 := by rw [← hM1]; simp only [List.length_append, Fld.le_length, txtL_length]; omega
      have HM1 := Lib.hid hM1
      obtain ⟨M2, hM2⟩ : ∃ m, M1 ++ Fld.le 4 n = m := ⟨_, rfl⟩
      have lM2 : M2.length ≤ 7000200 := by rw [← hM2]; simp only [List.length_append, Fld.le_length, txtL_length]; omega
      have HM2 := Lib.hid hM2
      clear hM1 hM2
      obtain ⟨b4, o4, q1, z1⟩ := int_cellR (H3.out.below HBR.out) HXN.out
      obtain ⟨rfl, rfl⟩ : b3 = b4 ∧ o3 = o4 := by simpa using q1
      clear q1
      have hw1 : IntKind.i64.wrap ((k : Int) + 1) = (k : Int) + 1 := by rw [IntKind.wrap_i64]; omega
      have hw2 : ((k : Int) + 1).toNat = k + 1 := by omega
      have hw3 : (0 : Int) ≤ (k : Int) + 1 := by omega
      go_upto_region 15 with fail
      have p0 := Near.cell (w := wr.drew) (row := none) m0 (by simp)
      have p1 := Near.cell (w := wr.drew) (row := none) m1 (by simp)
      have p2 := Near.cell (w := wr.drew) (row := none) m2 (by simp)
      have p3 := Near.cell (w := wr.drew) (row := none) m3 (by simp)
      have q0 := Near.cell (w := wr.drew) (row := none) e0 (by simp)
      have q1 := Near.cell (w := wr.drew) (row := none) z1 (by simp)
      refine wp_region_mix (fun w' => ∃ x : Near wr.drew none, w' = x.world) [] 15 (by kernel_rfl) rfl ?_
      refine mix_reads_lit [0, 1, 2, 3, 4, 5, 7, 8, 9, 10, 11, 12] 3 (by kernel_rfl) (by kernel_rfl) (by kernel_rfl) (by kernel_rfl) rfl (NearC.of (World.grownBy.refl _ _)) ?_
      simp only [pick, List.filterMap_cons, List.filterMap_nil, List.getElem?_cons_succ, List.getElem?_cons_zero]
      repeat (first | go_big_quiet_step (fail) | quiet_step (fail))
      refine wpQuiet_nil ?_
      refine mix_deed_lit 6 2 (by kernel_rfl) (by kernel_rfl) rfl (fun K hK => ?_)
      simp only [comesUp, List.getElem?_cons_succ, List.getElem?_cons_zero]
      refine if_mk rfl ?_
      go_simp
      refine (refText_is _ L0 M1 s HM1.out _ (show BytesAt wr.drew _ _ from HOW.out.bytes) (by omega) (by omega)).mono ?_
      rintro r4 w4 ⟨⟨a4, c4, rfl, ho4⟩, hb4⟩
      have gb_w4 : wr.drew.grownBy w4 none := grown_of_below hb4 (Nat.le_refl _) _
      refine hK _ _ (fun _ _ => NearC.of gb_w4) ?_
      clear hK K
      refine mix_deed_lit 13 1 (by kernel_rfl) (by kernel_rfl) rfl (fun K hK => ?_)
      simp only [comesUp, List.getElem?_cons_succ, List.getElem?_cons_zero]
      refine if_mk rfl ?_
      go_simp
      refine (refNum_is _ M1 M2 n 4 HM2.out _ _ rfl rfl _ ho4.bytes (by decide) (show n < 4294967296 by omega) (by omega) (by omega)).mono ?_
      rintro r5 w5 ⟨⟨a5, c5, rfl, ho5⟩, hb5⟩
      have gb_w5 : wr.drew.grownBy w5 none := grown_trans gb_w4 (grown_of_below hb5 (Nat.le_refl _) _)
      refine hK _ _ (fun _ _ => NearC.of gb_w5) ?_
      clear hK K
      refine mix_flat_lit [14] 0 (by kernel_rfl) (by kernel_rfl) (by kernel_rfl) (by kernel_rfl) rfl ?_
      simp only [pick, List.filterMap_cons, List.filterMap_nil, List.getElem?_cons_succ, List.getElem?_cons_zero]
      repeat (first | go_big_quiet_step (fail) | quiet_step (fail))
      refine wpQuiet_nil ?_
      refine mix_done_lit (by kernel_rfl) ?_
      have HB5 := Lib.hid (below_step HBR.out.drew (grown_below gb_w5 (by simp) (Nat.le_refl _)))
      have HX5 := Lib.hid (HBX.out.below ((Below.refl _ _).drew.trans (grown_below gb_w5 (by simp) (Nat.le_refl _))))
      have HO5 := Lib.hid (ho5.mono (b2 := w.heap.size) (Nat.le_trans HBR.out.size gb_w4.size))
      clear ho4 ho5 hb4 hb5 gb_w4 gb_w5 p0 p1 p2 p3 q0 q1
      go_wp2_with fail
      go_roundw
      case rel =>
        have hL : Fld.le 2 ki.length ++ Fld.le 4 n0 ++ keysL ks ki (k + 1) = M2 := by rw [HEL.out, ← HM2.out, ← HM1.out, ← HL0.out]; simp only [List.append_assoc]
        exact ⟨k + 1, a5, c5, by omega, by go_num, by rw [hL], by rw [hL]; exact HO5.out, HX5.out, HB5.out⟩
      case measure => simp [intOf]; omega
    · have hkk : k = ks.length := by omega
      subst hkk
      rw [← HNL.out] at HOW
      try rw [← HNL.out]
      go_wp2_with fail
      go_ret
      exact ⟨⟨a, c, by first | rfl | rw [HNL.out], HOW.out⟩, HBR.out⟩
theorem refBytes_is (lf : Bool) (es : List Nd.Ent) (ks : List ByteArray) (ki : List Int) (hn : nodeB lf es ks ki = true) (L : List UInt8) (hL : nodeL lf es ks ki = L) (a1 a2 a3 : Option Addr) (c1 c2 c3 : Nat) (w : World) (h1 : RowAt eEnt w (.slice a1 es.length c1) es) (h2 : RowAt eStr w (.slice a2 ks.length c2) ks) (h3 : IntsAt w (.slice a3 ki.length c3) ki) :
    Calls Tryd.prog 27 #[.agg #[.bool lf, .slice a1 es.length c1, .slice a2 ks.length c2, .slice a3 ki.length c3]] w fun e w' => (∃ a c, e = .returned (.slice a L.length c) ∧ Own w' w.heap.size (.slice a L.length c) L) ∧ Below w.heap.size w w' := by
  subst hL
  cases lf with
  | true => exact refBytes_leaf es ks ki hn a1 a2 a3 c1 c2 c3 w h1
  | false => exact refBytes_inner es ks ki hn a1 a2 a3 c1 c2 c3 w h2 h3
end Go.Proofs.YtlobelfnjabajaaDoor
