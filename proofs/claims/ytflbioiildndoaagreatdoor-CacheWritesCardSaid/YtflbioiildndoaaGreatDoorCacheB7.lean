/- the statements of caches: step, whatever call (printed by wip/tools/rc/mk_any.py and gen_refc.py) -/
import Derived.Test.YtflbioiildndoaaGreatDoorCacheB2
import Derived.Test.YtflbioiildndoaaGreatDoorCacheB4
import Derived.Test.YtflbioiildndoaaGreatDoorCacheB6
namespace Go.Proofs.YtflbioiildndoaaGreatDoor
open Go.RowKit
set_option linter.unusedVariables false
set_option linter.unusedSimpArgs false

theorem changes08_any {U G : Nat → Prop} {w : World} {c dp rg rc n sl : Nat} {C : Ch.Cache} {s : Shp} (hc : CIn U w c dp rg rc C) (hr : RefC G w C s) (hG : Held G w) (hGU : ∀ k, G k → ¬ U k) (hf : Ch.Fit n sl C) (hn : n ≤ 900) (A : Nat → Addr) (hsU : ∀ w1, Beside U w w1 → Sents w1 A) (kind id : Int) (fill : UInt8) (bad : Bool) (h0 : kind ≠ 0) (h1 : kind ≠ 1) {D : Ch.Cache} (hD : Ch.stepC C kind id fill bad = D) :
    Calls Tryz.prog 39 #[.pointer (some ⟨c, 0, none⟩), refCV C s, .agg #[.int .i64 kind, .int .i64 id, .int .u8 (fill.toNat : Int), .bool bad]] w (Stepped8 U G w c dp D) := by
  unfold Ch.stepC at hD
  rw [if_neg h0, if_neg h1] at hD
  by_cases h2 : kind = 2
  · rw [if_pos h2] at hD
    exact changes08_pin hc hr hG hGU hf hn A hsU kind id fill bad h2 (kk := (Ch.pin C id).2) (Prod.ext hD rfl)
  rw [if_neg h2] at hD
  by_cases h3 : kind = 3
  · rw [if_pos h3] at hD
    exact changes08_unpin hc hr hG hGU hf hn A hsU kind id fill bad h3 (kk := (Ch.unpin C id).2) (Prod.ext hD rfl)
  rw [if_neg h3] at hD
  by_cases h4 : kind = 4
  · rw [if_pos h4] at hD
    exact changes08_flush hc hr hG hGU hf hn A hsU kind id fill bad h4 (kk := (Ch.flush C).2) (Prod.ext hD rfl)
  rw [if_neg h4] at hD
  by_cases h5 : kind = 5
  · rw [if_pos h5] at hD
    rw [← hD]
    exact changes08_forget hc hr hG hGU hf hn A hsU kind id fill bad h5
  rw [if_neg h5] at hD
  by_cases h7 : kind = 7
  · rw [if_pos h7] at hD
    rw [← hD]
    exact changes08_arm hc hr hG hGU hf hn A hsU kind id fill bad h7 (kk := (Bk.arm C.disk id [] (-1) 0).2) rfl
  rw [if_neg h7] at hD
  by_cases h8 : kind = 8
  · rw [if_pos h8] at hD
    rw [← hD]
    exact changes08_on hc hr hG hGU hf hn A hsU kind id fill bad h8 rfl
  rw [if_neg h8] at hD
  exact changes08_drop hc hr hG hGU hf hn A hsU kind id fill bad ⟨by simp [h2], by simp [h3], by simp [h4], by simp [h5], by simp [h7], by simp [h8]⟩ (kk := (Ch.drop C id).2) (Prod.ext hD rfl)

set_option maxRecDepth 100000 in
set_option maxHeartbeats 8000000 in
theorem step08_other {U G : Nat → Prop} {w : World} {c dp rg rc n sl : Nat} {C : Ch.Cache} {s : Shp} (hc : CIn U w c dp rg rc C) (hr : RefC G w C s) (hG : Held G w) (hGU : ∀ k, G k → ¬ U k) (hf : Ch.Fit n sl C) (hn : n ≤ 900) (A : Nat → Addr) (hsU : ∀ w1, Beside U w w1 → Sents w1 A) (kind id : Int) (fill : UInt8) (bad : Bool) (hk : (kind == 0) = false ∧ (kind == 1) = false) {D : Ch.Cache} (hD : Ch.stepC C kind id fill bad = D) :
    Calls Tryz.prog 8 #[.pointer (some ⟨c, 0, none⟩), refCV C s, .agg #[.int .i64 kind, .int .i64 id, .int .u8 (fill.toNat : Int), .bool bad]] w (Stepped8 U G w c dp D) := by
  obtain ⟨hk0, hk1⟩ := hk
  have HD := Lib.hid hD
  clear hD
  have HC := Lib.hid hc
  have HUU := Lib.hid hc.held
  have HG := Lib.hid hG
  have HGU := Lib.hid hGU
  have HF := Lib.hid hf
  have HS := Lib.hid hsU
  obtain ⟨sa, sc, la, lc, wa, wq, ka, kc⟩ := s
  have H := Lib.hid hr
  unfold refCV
  clear hc hr hG hGU hf hsU
  go_enter Tryz.func8, Tryz.ntmps8
  go_upto_region 1 with fail
  obtain ⟨nb, hnb⟩ : ∃ nb, w.heap.size = nb := ⟨_, rfl⟩
  refine wp_name fun W hW => ?_
  have HH := Lib.hid (show Hav G w nb (nb + 1 + 1) (nb + 1) W C ⟨sa, sc, la, lc, wa, wq, ka, kc⟩ G from Hav.open_ H.out HG.out (by omega) (by rw [hW]; simp [hnb]) (by omega) (by rw [hW]; exact ((BoxAt.newAt _ _ hnb [_, _, _, _, _, _, _, _, _, _, _, _, _] _).alloc _).alloc _) (by rw [hW]; exact BoxAt.newAt _ _ (by simp [hnb]) [_, _, _, _, _, _, _, _, _, _, _, _, _] _) (by rw [hW]; go_grown))
  have HACT := Lib.hid (show BoxAt W (nb + 1) [.int .i64 kind, .int .i64 id, .int .u8 (fill.toNat : Int), .bool bad] by rw [hW]; exact (BoxAt.newAt _ _ (by simp [hnb]) [_, _, _, _] _).alloc _)
  have HNB := Lib.hid hnb
  clear hW
  rw [hnb]
  clear hnb
  have HCW := Lib.hid (HC.out.below HH.out.below)
  obtain ⟨x0, x1, x2, x3, x4, x5, x6, x7, x8, x9, x10, x11, x12⟩ := HH.out.x
  obtain ⟨r0, r1, r2, r3⟩ := HACT.out.four
  have HCH := Lib.hid (show Calls Tryz.prog 39 #[.pointer (some ⟨c, 0, none⟩), .agg #[.slice sa C.slots.length sc, .int .i64 (C.hand : Int), .int .i64 (C.disk.blocks : Int), .int .i64 (C.disk.size : Int), .slice la C.disk.lasting.length lc, .slice wa C.disk.waiting.length wq, .bool C.disk.lit, .int .i64 C.disk.after, .int .i64 C.disk.torn, .int .i64 C.disk.cut, .slice ka C.disk.keep.length kc, .bool C.disk.off, .int .i64 C.disk.count], .agg #[.int .i64 kind, .int .i64 id, .int .u8 (fill.toNat : Int), .bool bad]] W (Stepped8 U G W c dp D) from by
    have hh := changes08_any HCW.out HH.out.ref HH.out.held HGU.out HF.out hn A (fun wx hx => HS.out wx ((Beside.of_below HH.out.below).same hx)) kind id fill bad (by intro e; subst e; simp at hk0) (by intro e; subst e; simp at hk1) HD.out
    unfold refCV at hh
    exact hh)
  have hUlt : ∀ q, w.heap.size ≤ q → ¬ U q := fun q hq h => by have := HUU.out q h; omega
  have hw0 := HNB.out
  have hl0 := HH.out.lt
  have hwW := HH.out.below.size
  have HUL := Lib.hid hUlt
  clear hUlt
  go_wp2_with (go_at_call 39; (refine HCH.out.mono ?_); (rintro e w6 ⟨U1, G1, ⟨sa6, sc6, la6, lc6, wa6, wq6, ka6, kc6⟩, rg6, rc6, rfl, hC6, hR6, hB6, hgU6, hgG6, hd6⟩); (have HC6 := Lib.hid hC6); (have HR6 := Lib.hid hR6); (have HB6 := Lib.hid hB6); (have HGU6 := Lib.hid hgU6); (have HGG6 := Lib.hid hgG6); (have HD6 := Lib.hid hd6); (obtain ⟨y0, y1, y2, y3, y4, y5, y6, y7, y8, y9, y10, y11, y12⟩ := (HH.out.res.beside hB6 (HUL.out _ (by omega))).thirteen); (obtain ⟨f0, f1, f2, f3, f4, f5, f6, f7, f8, f9, f10, f11, f12⟩ := (HH.out.res.beside hB6 (HUL.out _ (by omega))).thirteenF); (clear hC6 hR6 hB6 hgU6 hgG6 hd6); (unfold refCV))
  refine bodyPost_ret (v := .tuple #[refCV D ⟨sa6, sc6, la6, lc6, wa6, wq6, ka6, kc6⟩, .bool true]) (by simp [results, Tryz.results8, go_sem, refCV, y0, y1, y2, y3, y4, y5, y6, y7, y8, y9, y10, y11, y12]) rfl ?_
  have hs6 := HB6.out.size
  refine Stepped8.fin' (U1 := U1) (X := G1) HC6.out (fun k hk => ?_) HR6.out (fun k hk => ?_) HD6.out ((Beside.of_below HH.out.below).same HB6.out) ⟨by omega, by omega⟩ (grown13 _ (nb + 1 + 1) _ _ _ _ _ _ _ _ _ _ _ _ _)
  · rcases (HGU6.out k hk).1 with h | h
    · exact ⟨.inl h, by have := HUU.out k h; omega⟩
    · exact ⟨.inr (by omega), by omega⟩
  · have h2 := HGG6.out k hk
    rcases h2.1 with h | h
    · exact ⟨.inl h, h2.2, by have := HG.out k h; omega⟩
    · exact ⟨.inr (by omega), h2.2, by omega⟩

theorem step08_any {U G : Nat → Prop} {w : World} {c dp rg rc n sl : Nat} {C : Ch.Cache} {s : Shp} (hc : CIn U w c dp rg rc C) (hr : RefC G w C s) (hG : Held G w) (hGU : ∀ k, G k → ¬ U k) (hf : Ch.Fit n sl C) (hn : n ≤ 900) (A : Nat → Addr) (hsU : ∀ w1, Beside U w w1 → Sents w1 A) (kind id : Int) (fill : UInt8) (bad : Bool) {D : Ch.Cache} (hD : Ch.stepC C kind id fill bad = D) :
    Calls Tryz.prog 8 #[.pointer (some ⟨c, 0, none⟩), refCV C s, .agg #[.int .i64 kind, .int .i64 id, .int .u8 (fill.toNat : Int), .bool bad]] w (Stepped8 U G w c dp D) := by
  by_cases h0 : kind = 0
  · unfold Ch.stepC at hD
    rw [if_pos h0] at hD
    exact step08_get hc hr hG hGU hf hn A hsU kind id fill bad h0 (p := (Ch.get C id).2.1) (kk := (Ch.get C id).2.2) (Prod.ext hD rfl)
  by_cases h1 : kind = 1
  · unfold Ch.stepC at hD
    rw [if_neg h0, if_pos h1] at hD
    cases bad with
    | false => exact step08_put hc hr hG hGU hf hn A hsU kind id fill false ⟨h1, rfl⟩ (kk := (Ch.put C (Ch.pageOf id fill false)).2) (Prod.ext hD rfl)
    | true => exact step08_bad hc hr hG hGU hf hn A hsU kind id fill true ⟨h1, rfl⟩ (kk := (Ch.put C (Ch.pageOf id fill true)).2) (Prod.ext hD rfl)
  exact step08_other hc hr hG hGU hf hn A hsU kind id fill bad ⟨by simp [h0], by simp [h1]⟩ hD
end Go.Proofs.YtflbioiildndoaaGreatDoor

