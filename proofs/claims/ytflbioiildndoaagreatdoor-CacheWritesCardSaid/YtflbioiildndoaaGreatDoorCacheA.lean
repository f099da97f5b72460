/- merged: CacheRow, CacheAwake -/
import Derived.Test.YtflbioiildndoaaGreatDoorQ2
import Derived.Test.YtflbioiildndoaaGreatDoorCacheW2
import Derived.Test.YtflbioiildndoaaGreatDoorCacheP
import Derived.Test.YtflbioiildndoaaGreatDoorQ8
/- a row of calls of a cache that came in -/
namespace Go.Proofs.YtflbioiildndoaaGreatDoor
open Go.RowKit

/-- a call of a cache, as the statements have it -/
structure CCall where
  kind : Int
  id : Int
  fill : UInt8
  bad : Bool
def CCall.cells (a : CCall) : List Value := [.int .i64 a.kind, .int .i64 a.id, .int .u8 (a.fill.toNat : Int), .bool a.bad]
abbrev eCC : Elem CCall := ⟨22, 43, 4, 24, .agg #[.int .i64 0, .int .i64 0, .int .u8 0, .bool false], CCall.cells⟩
/-- the cells of a call in a row -/
theorem RowAt.call {w : World} {b o n c : Nat} {l : List CCall} (h : RowAt eCC w (.slice (some ⟨b, o, none⟩) n c) l) {k : Nat} {a : CCall} (hk : l[k]? = some a) :
    w.cell? ⟨b, o + k * 4, none⟩ = some (.int .i64 a.kind) ∧ w.cell? ⟨b, o + k * 4 + 1, none⟩ = some (.int .i64 a.id) ∧ w.cell? ⟨b, o + k * 4 + 2, none⟩ = some (.int .u8 (a.fill.toNat : Int)) ∧ w.cell? ⟨b, o + k * 4 + 3, none⟩ = some (.bool a.bad) := by
  obtain ⟨x, cc, hv, h1, h2, h3⟩ := h
  rcases h3 with h3 | ⟨b', o', rfl, h3⟩
  · rw [h3] at hk; simp at hk
  · simp only [Value.slice.injEq, Option.some.injEq, Addr.mk.injEq] at hv
    obtain ⟨⟨rfl, rfl, -⟩, -, -⟩ := hv
    refine ⟨?_, ?_, ?_, ?_⟩
    · have := h3 k a hk 0 _ rfl; simpa using this
    · exact h3 k a hk 1 _ rfl
    · exact h3 k a hk 2 _ rfl
    · exact h3 k a hk 3 _ rfl
end Go.Proofs.YtflbioiildndoaaGreatDoor

/- the statements of caches: small, leaf, slots, made, awake -/
namespace Go.Proofs.YtflbioiildndoaaGreatDoor
open Go.RowKit
set_option linter.unusedVariables false
set_option linter.unusedSimpArgs false

theorem small08_is (w : World) :
    Calls Tryz.prog 25 #[] w fun e w' => e = .returned (.agg #[.int .i64 12, .int .i64 256]) ∧ Below w.heap.size w w' := by
  go_enter Tryz.func25, Tryz.ntmps25
  go_wp2_with fail
  refine bodyPost_ret (v := .agg #[.int .i64 12, .int .i64 256]) (by simp [results, Tryz.results25, go_sem]) rfl ?_
  exact ⟨rfl, by go_grown⟩
theorem one_byteAt (w : World) (x : UInt8) (z : Int) (hz : z = (x.toNat : Int)) (t : TypeId) (n : Nat) (hn : w.heap.size = n) : BytesAt (w.alloc (.cells #[.int .u8 z] t)) (.slice (some ⟨n, 0, none⟩) 1 1) [x] := by subst hn; exact one_byte w x z hz t
set_option maxRecDepth 100000 in
theorem leaf08_is (id : Int) (f : UInt8) (F : Int) (hF : F = (f.toNat : Int)) (w : World) :
    Calls Tryz.prog 28 #[.int .i64 id, .int .u8 F] w fun e w' => (∃ g, e = .returned (.agg #[.int .i64 3, .int .i64 id, .int .u64 1, .slice (some ⟨g, 0, none⟩) 1 1]) ∧ w.heap.size ≤ g ∧ g < w'.heap.size ∧ BytesAt w' (.slice (some ⟨g, 0, none⟩) 1 1) [f] ∧ w'.frozen? ⟨g, 0, none⟩ = false) ∧ Below w.heap.size w w' := by
  subst hF
  go_enter Tryz.func28, Tryz.ntmps28
  go_wp2_with fail
  refine bodyPost_ret (v := .agg #[.int .i64 3, .int .i64 id, .int .u64 1, .slice (some ⟨w.heap.size + 1, 0, none⟩) 1 1]) (by simp [results, Tryz.results28, go_sem]) rfl ?_
  refine ⟨⟨_, rfl, Nat.le_succ _, by simp, one_byteAt _ f _ rfl _ _ (by simp), (BoxAt.newAt _ _ (by simp) [_] _).free 0 _ rfl⟩, by go_grown⟩
theorem ge8 {F F' : Nat → Prop} {w w' : World} {B : Nat} (hg : Grows F w F' w') (hB : ∀ k, F k → B ≤ k) (hs : B ≤ w.heap.size) : ∀ k, F' k → B ≤ k := fun k hk => by
  rcases (hg k hk).1 with h | h
  · exact hB k h
  · omega
/-- how many slots, by a number -/
def slotsN (n : Int) : Nat := 3 + (n % 18446744073709551616 % 4).toNat
theorem slotsN_bd (n : Int) : 3 ≤ slotsN n ∧ slotsN n ≤ 6 := by unfold slotsN; omega
theorem mod_spell8 (x : Int) (m : Int) (h0 : 0 < m) (h1 : m ≤ 2048) : wrap64 ((IntKind.u64.wrap x).tmod m) = x % 18446744073709551616 % m := by
  have e : IntKind.u64.wrap x = x % 18446744073709551616 := by rw [IntKind.wrap_u64]
  rw [e, Int.tmod_eq_emod_of_nonneg (by omega)]
  have h2 := Int.emod_nonneg (x % 18446744073709551616) (show m ≠ 0 by omega)
  have h3 := Int.emod_lt_of_pos (x % 18446744073709551616) h0
  rw [wrap64_is, IntKind.wrap_i64]
  omega
theorem slots08_is (n : Int) (s : Nat) (hs : slotsN n = s) (w : World) :
    Calls Tryz.prog 6 #[.int .i64 n] w fun e w' => e = .returned (.int .i64 (s : Int)) ∧ w = w' := by
  subst hs
  have H := Lib.hid (mod_spell8 n 4 (by decide) (by decide))
  go_enter Tryz.func6, Tryz.ntmps6
  go_wp2_with fail
  go_ret
  refine ⟨?_, rfl⟩
  show Ending.returned (.int .i64 (wrap64 (3 + wrap64 ((IntKind.u64.wrap n).tmod 4)))) = _
  rw [H.out, wrap64_is, IntKind.wrap_i64]
  unfold slotsN
  congr 2
  omega

set_option maxRecDepth 100000 in
set_option maxHeartbeats 2000000 in
theorem made08_is {S : Nat → Prop} [Has S 1] [Has S 2] [Has S 7] (n : Int) (N : Nat) (hn : n = (N : Int)) (hN : 3 ≤ N ∧ N ≤ 64) (M : Bk.Disk) (hM : Ch.madeD 6 = M) (w : World) (A : Nat → Addr) (hs : SentsOn S w A) :
    Calls Tryz.prog 5 #[.int .i64 n] w fun e w' => (∃ c dp rg rc, ∃ U : Nat → Prop, e = .returned (.tuple #[.pointer (some ⟨c, 0, none⟩), .bool true]) ∧ CIn U w' c dp rg rc (Ch.new M N) ∧ ∀ k, U k → w.heap.size ≤ k) ∧ Below w.heap.size w w' := by
  subst hn
  have HS := Lib.hid hs
  have HM := Lib.hid hM
  clear hs hM
  go_enter Tryz.func5, Tryz.ntmps5
  go_upto_region 4 with (first
    | (go_at_call 24; (refine (new_ok4 12 256 (by omega) (by omega) _).mono ?_); (rintro e w2 ⟨⟨dp, rfl, hd⟩, hb⟩); (have HD := Lib.hid hd); (have HB := Lib.hid hb); (clear hd hb))
    | (go_at_call 25; (refine (small08_is _).mono ?_); (rintro e w1 ⟨rfl, hb⟩); (have HB1 := Lib.hid hb); (clear hb)))
  have HBW := Lib.hid (below_step HB1.out HB.out)
  have hs1 : w.heap.size ≤ w1.heap.size := HB1.out.size
  go_wp2_with fail
  go_loopw [6] (fun i wr => ∃ (k : Nat) (F : Nat → Prop), k ≤ 6 ∧ i = .int .i64 ((k : Int) + 2) ∧ DiskAt F wr dp (Ch.madeD k) ∧ Held F wr ∧ (∀ j, F j → w.heap.size ≤ j) ∧ Below w.heap.size w wr) (fun i _ => 8 - (intOf i).toNat)
  case atStart => exact ⟨0, _, by omega, rfl, HD.out, fun k hk => hk.2, fun k hk => by omega, HBW.out⟩
  case round =>
    obtain ⟨k, F, hk, rfl, hd, hf, hge, hbr⟩ := hrel
    have HDR := Lib.hid hd
    have HF := Lib.hid hf
    have HGE := Lib.hid hge
    have HBR := Lib.hid hbr
    clear hd hf hge hbr
    by_cases hlt : k < 6
    · have hlt1 : (k : Int) + 2 < 8 := by omega
      obtain ⟨f, hf⟩ : ∃ f : UInt8, UInt8.ofNat (k + 2) = f := ⟨_, rfl⟩
      have hwf : IntKind.u8.wrap ((k : Int) + 2) = (f.toNat : Int) := by rw [← hf, IntKind.wrap_u8, UInt8.toNat_ofNat']; omega
      have HV := Lib.hid (show Ch.V0 ((k : Int) + 2) = ⟨3, (k : Int) + 2, 1, [f]⟩ by unfold Ch.V0 Ch.leafP; rw [show ((k : Int) + 2).toNat = k + 2 by omega, hf])
      obtain ⟨hp1, hp2⟩ := Ch.madeD_put hlt (Ch.madeD_ok (by omega))
      have hok := (Ch.madeD_ok (k := k) (by omega)).ok
      obtain ⟨SL, hSL⟩ : ∃ SL, Pg.sealL (Ch.V0 ((k : Int) + 2)) 256 = SL := ⟨_, rfl⟩
      rw [hSL] at hp1
      have HSL := Lib.hid (show Pg.sealL ⟨3, (k : Int) + 2, 1, [f]⟩ 256 = SL by rw [← HV.out]; exact hSL)
      have hln : SL.length = 256 := by rw [← hSL]; exact Ch.leaf_seal _
      obtain ⟨M1, hM1⟩ : ∃ M1, Ch.madeD k = M1 := ⟨_, rfl⟩
      obtain ⟨M2, hM2⟩ : ∃ M2, Ch.madeD (k + 1) = M2 := ⟨_, rfl⟩
      rw [hM1, hM2] at hp1
      rw [hM1] at hok HDR
      have HM2 := Lib.hid hM2
      have HP1 := Lib.hid hp1
      have HOK := Lib.hid hok
      clear hM1 hM2
      have HRS := Lib.hid (fun (wx : World) (g : Nat) (hb : BytesAt wx (.slice (some ⟨g, 0, none⟩) 1 1) [f]) => show Calls Tryz.prog 27 #[.agg #[.int .i64 3, .int .i64 ((k : Int) + 2), .int .u64 1, .slice (some ⟨g, 0, none⟩) 1 1], .int .i64 256] wx fun e w' => (∃ a c, e = .returned (.slice a 256 c) ∧ Own w' wx.heap.size (.slice a 256 c) SL) ∧ Below wx.heap.size wx w' from by
        have h := refSeal_ok ⟨3, (k : Int) + 2, 1, [f]⟩ (some ⟨g, 0, none⟩) 1 256 wx hb (Ch.leaf_ok f (by omega) (by omega)) (show 1 < 18446744073709551616 by decide)
        rw [HSL.out, hln] at h
        exact h)
      clear hp1 hp2 hok hSL hf hln
      go_upto_region 6 with (first
        | (go_at_call 26; (refine (write_to ((HDR.out.below HF.out HB4.out).below (HF.out.more HB4.out.size) HB5.out) HOK.out (by omega) ((HF.out.more HB4.out.size).more HB5.out.size) ((k : Int) + 2) _ SL HP1.out HO5.out.bytes A (fun wx hx => HS.out.below ((below_step HBR.out (below_step HB4.out HB5.out)).trans (hx.below HGE.out (by have := HBR.out.size; have := HB4.out.size; have := HB5.out.size; omega))))).mono ?_); (rintro e w6 ⟨F6, l6, v6, rfl, hE6, hd6, hb6, hg6⟩); (obtain ⟨rfl, rfl⟩ := hE6.isNil); (have HD6 := Lib.hid hd6); (have HB6 := Lib.hid hb6); (have HG6 := Lib.hid hg6); (clear hE6 hd6 hb6 hg6))
        | (go_at_call 27; (refine (HRS.out _ g4 HO4.out).mono ?_); (rintro e w5 ⟨⟨a5, c5, rfl, ho5⟩, hb5⟩); (have HO5 := Lib.hid ho5); (have HB5 := Lib.hid hb5); (clear ho5 hb5))
        | (go_at_call 28; (refine (leaf08_is ((k : Int) + 2) f _ rfl _).mono ?_); (rintro e w4 ⟨⟨g4, rfl, -, -, ho4, -⟩, hb4⟩); (have HO4 := Lib.hid ho4); (have HB4 := Lib.hid hb4); (clear ho4 hb4)))
      have hs4 := HBR.out.size
      have hs5 := HB4.out.size
      have hs6 := HB5.out.size
      have HBN := Lib.hid ((below_step HBR.out (below_step HB4.out HB5.out)).trans (HB6.out.below HGE.out (by omega)))
      have HGN := Lib.hid (ge8 HG6.out HGE.out (by omega))
      have hw3 : IntKind.i64.wrap ((k : Int) + 2 + 1) = (k : Int) + 1 + 2 := by rw [IntKind.wrap_i64]; omega
      go_wp2_with fail
      go_roundw
      case rel => exact ⟨k + 1, F6, by omega, by go_num, by rw [HM2.out]; exact HD6.out, HG6.out.held, HGN.out, HBN.out⟩
      case measure => simp [intOf]; omega
    · obtain rfl : k = 6 := by omega
      have HDM := Lib.hid (show DiskAt F wr dp M by rw [← HM.out]; exact HDR.out)
      have hN1 : (N : Int) = ((N : Nat) : Int) := rfl
      go_wp2_with (go_at_call 29; (refine (cnew_ok HDM.out HF.out N hN.1 hN.2 _ rfl).mono ?_); (rintro e w4 ⟨⟨c4, rg4, rc4, rfl, hC4⟩, hb4⟩); (have HC4 := Lib.hid hC4); (have HB4 := Lib.hid hb4); (clear hC4 hb4))
      go_returns
      have hs4 := HBR.out.size
      exact ⟨⟨_, _, _, _, _, rfl, HC4.out, fun k hk => hk.elim (HGE.out k) fun h => by omega⟩, below_step HBR.out HB4.out⟩

theorem fresh8 {U : Nat → Prop} {w w2 : World} {g n cc : Nat} (hU : Held U w) (h1 : w.heap.size ≤ g) (h2 : g < w2.heap.size) : ∀ k, (Value.slice (some ⟨g, 0, none⟩) n cc).ownBlock = some k → ¬ U k ∧ k < w2.heap.size := fun k hk => by
  obtain rfl : g = k := Option.some.inj hk
  exact ⟨fun hu => by have := hU _ hu; omega, h2⟩
theorem cputLeaf_is {S : Nat → Prop} [Has S 1] [Has S 2] [Has S 3] [Has S 5] [Has S 7] {U : Nat → Prop} {w : World} {c dp rg rc n : Nat} {C D : Ch.Cache} {k : Nat} (h : CIn U w c dp rg rc C) (ho : Ch.Ok n C) (hn : n ≤ 1000000) (id : Int) (f : UInt8) (a : Option Addr) (cc : Nat) (hb : BytesAt w (.slice a 1 cc) [f]) (hbU : ∀ k, (Value.slice a 1 cc).ownBlock = some k → ¬ U k ∧ k < w.heap.size) (hD : Ch.put C (Ch.leafP id f) = (D, k)) (A : Nat → Addr) (hsU : ∀ w1, Beside U w w1 → SentsOn S w1 A) :
    Calls Tryz.prog 38 #[.pointer (some ⟨c, 0, none⟩), .agg #[.int .i64 3, .int .i64 id, .int .u64 1, .slice a 1 cc]] w (CAct U w A c dp rg rc D k) :=
  cput_is h ho hn (Ch.leafP id f) a cc hb hbU (show 1 ≤ 100000 by decide) hD A hsU
theorem cgetLeaf_is {S : Nat → Prop} [Has S 1] [Has S 2] [Has S 3] [Has S 5] [Has S 7] {U : Nat → Prop} {w : World} {c dp rg rc n : Nat} {C D : Ch.Cache} (h : CIn U w c dp rg rc C) (ho : Ch.Ok n C) (hn : n ≤ 1000000) (id : Int) (id2 : Int) (f : UInt8) (hD : Ch.get C id = (D, Ch.leafP id2 f, 0)) (A : Nat → Addr) (hsU : ∀ w1, Beside U w w1 → SentsOn S w1 A) :
    Calls Tryz.prog 34 #[.pointer (some ⟨c, 0, none⟩), .int .i64 id] w fun e w' => ∃ g cc, e = .returned (.tuple #[.agg #[.int .i64 3, .int .i64 id2, .int .u64 1, .slice (some ⟨g, 0, none⟩) 1 cc], .nilIface]) ∧ Own w' w.heap.size (.slice (some ⟨g, 0, none⟩) 1 cc) [f] ∧ CIn (More U w w') w' c dp rg rc D ∧ Beside U w w' := by
  refine (cget_is h ho hn id hD A hsU).mono fun e w' ⟨l, v, a, cc, he, hE, hO, hC, hB⟩ => ?_
  obtain ⟨rfl, rfl⟩ := hE.isNil
  have hO' : Own w' w.heap.size (.slice a 1 cc) [f] := hO
  rcases hO'.row with ⟨_, h⟩ | ⟨g, cap, hv, h⟩
  · cases h
  · obtain ⟨rfl, rfl⟩ : a = some ⟨g, 0, none⟩ ∧ cc = cap := by injection hv with h1 h2 h3; exact ⟨h1, h3⟩
    exact ⟨g, cc, he, hO', hC, hB⟩
set_option maxRecDepth 100000 in
set_option maxHeartbeats 2000000 in
theorem awake08_any {S : Nat → Prop} [Has S 1] [Has S 2] [Has S 3] [Has S 5] [Has S 7] (w : World) (A : Nat → Addr) (hs : SentsOn S w A) :
    Calls Tryz.prog 18 #[] w fun e w' => e = .returned (.bool true) ∧ Below w.heap.size w w' := by
  obtain ⟨M, hM⟩ : ∃ M, Ch.madeD 6 = M := ⟨_, rfl⟩
  obtain ⟨C1, C2, e1, e2, e3, ok1, ok2, ok0⟩ := Ch.awake_run (Ch.madeD_ok (Nat.le_refl 6))
  rw [hM] at e1 ok0
  have HS := Lib.hid hs
  have HM := Lib.hid hM
  have HE1 := Lib.hid e1
  have HE2 := Lib.hid e2
  have HE3 := Lib.hid e3
  have HO0 := Lib.hid ok0
  have HO1 := Lib.hid ok1
  have HO2 := Lib.hid ok2
  clear hs hM e1 e2 e3 ok0 ok1 ok2
  go_enter Tryz.func18, Tryz.ntmps18
  go_upto_region 2 with (go_at_call 5; (refine (made08_is 3 3 rfl (by omega) M HM.out w A HS.out).mono ?_); (rintro e w1 ⟨⟨c, dp, rg, rc, U, rfl, hC, hge⟩, hb1⟩); (have HC := Lib.hid hC); (have HGE := Lib.hid hge); (have HB1 := Lib.hid hb1); (clear hC hge hb1))
  have hs1 : w.heap.size ≤ w1.heap.size := HB1.out.size
  have HHU := Lib.hid HC.out.held
  have HSB := Lib.hid (fun (w2 : World) (hb : Below w.heap.size w w2) => fun (wx : World) (hx : Beside U w2 wx) => HS.out.below (hb.trans (hx.below HGE.out hb.size)))
  go_upto_region 4 with (first
    | (go_at_call 38; (refine (cputLeaf_is (HC.out.below HB2.out) HO0.out (by omega) 2 9 _ _ HO3.out (fresh8 HHU.out hg3a hg3b) HE1.out A (HSB.out _ (below_step HB1.out HB2.out))).mono ?_); (rintro e w3 ⟨l3, v3, rfl, hE3, hC3, hB3⟩); (obtain ⟨rfl, rfl⟩ := hE3.isNil); (have HC3 := Lib.hid hC3); (have HB3 := Lib.hid hB3); (clear hE3 hC3 hB3))
    | (go_at_call 28; (refine (leaf08_is 2 9 _ rfl _).mono ?_); (rintro e w2 ⟨⟨g3, rfl, hg3a, hg3b, ho3, -⟩, hb2⟩); (have HO3 := Lib.hid ho3); (have HB2 := Lib.hid hb2); (clear ho3 hb2)))
  have hs2 : w1.heap.size ≤ w2.heap.size := HB2.out.size
  have hs3 : w2.heap.size ≤ w3.heap.size := HB3.out.size
  have hb3 : Below w.heap.size w w3 := (below_step HB1.out HB2.out).trans (HB3.out.below HGE.out (by omega))
  have HBW3 := Lib.hid hb3
  have HGE3 := Lib.hid (show ∀ k, More U w2 w3 k → w.heap.size ≤ k from fun k hk => hk.elim (HGE.out k) fun h => by omega)
  have HSB3 := Lib.hid (fun (wx : World) (hx : Beside (More U w2 w3) w3 wx) => HS.out.below (hb3.trans (hx.below HGE3.out hb3.size)))
  clear hb3
  go_upto_region 5 with (go_at_call 34; (refine (cgetLeaf_is HC3.out HO1.out (by omega) 2 2 9 HE2.out A HSB3.out).mono ?_); (rintro e w4 ⟨g4, c4, rfl, hO4, hC4, hB4⟩); (have HO4 := Lib.hid hO4); (have HC4 := Lib.hid hC4); (have HB4 := Lib.hid hB4); (clear hO4 hC4 hB4))
  have hs4 : w3.heap.size ≤ w4.heap.size := HB4.out.size
  have HBW4 := Lib.hid (HBW3.out.trans (HB4.out.below HGE3.out (by omega)))
  refine wp_name fun W hW => ?_
  have hbW : Below w4.heap.size w4 W := by rw [hW]; exact (Below.refl _ _).alloc (Nat.le_refl _) _
  have HX := Lib.hid (show BoxAt W w4.heap.size [.int .i64 3, .int .i64 2, .int .u64 1, .slice (some ⟨g4, 0, none⟩) 1 c4] by rw [hW]; exact BoxAt.new _ [_, _, _, _] _)
  have HOW := Lib.hid (HO4.out.below hbW (Nat.le_refl _))
  have HCW := Lib.hid (HC4.out.below hbW)
  have HBWW := Lib.hid (below_step HBW4.out hbW)
  clear hW hbW
  obtain ⟨x0, x1, x2, x3⟩ := HX.out.four
  have hc := HOW.out.cell (k := 0) (x := 9) rfl rfl
  rw [show ((9 : UInt8).toNat : Int) = 9 from rfl] at hc
  go_wp2_with (go_at_call 22; (refine (cdirty_is HCW.out HO2.out.len.2 1 HE3.out).mono ?_); (rintro e w5 ⟨rfl, hb5⟩); (have HB5 := Lib.hid hb5); (clear hb5))
  go_ret
  exact ⟨rfl, below_step HBWW.out HB5.out⟩
end Go.Proofs.YtflbioiildndoaaGreatDoor
