/- the statements of caches: changes: Forget, Arm, On (printed by wip/tools/rc/mk_changes3.py and gen_refc.py) -/
import Derived.Test.YtflbioiildndoaaGreatDoorCacheB1
namespace Go.Proofs.YtflbioiildndoaaGreatDoor
open Go.RowKit
set_option linter.unusedVariables false
set_option linter.unusedSimpArgs false

/-- a box of thirteen cells, of which the last eleven are stored anew -/
theorem BoxAt.fill11s {w : World} {r : Nat} {a0 a1 a2 a3 a4 a5 a6 a7 a8 a9 a10 a11 a12 : Value} (h : BoxAt w r [a0, a1, a2, a3, a4, a5, a6, a7, a8, a9, a10, a11, a12]) (v2 v3 v4 v5 v6 v7 v8 v9 v10 v11 v12 : Value) : ∃ Z, Z = (((((((((((w.setCell ⟨r, 2, none⟩ v2).setCell ⟨r, 3, none⟩ v3).setCell ⟨r, 4, none⟩ v4).setCell ⟨r, 5, none⟩ v5).setCell ⟨r, 6, none⟩ v6).setCell ⟨r, 7, none⟩ v7).setCell ⟨r, 8, none⟩ v8).setCell ⟨r, 9, none⟩ v9).setCell ⟨r, 10, none⟩ v10).setCell ⟨r, 11, none⟩ v11).setCell ⟨r, 12, none⟩ v12) ∧ BoxAt Z r [a0, a1, v2, v3, v4, v5, v6, v7, v8, v9, v10, v11, v12] ∧ w.grownBy Z (some r) :=
  ⟨_, rfl, (((((((((((h.put 2 v2).put 3 v3).put 4 v4).put 5 v5).put 6 v6).put 7 v7).put 8 v8).put 9 v9).put 10 v10).put 11 v11).put 12 v12), by repeat (first | refine grownBy_set ?_ _ _ | exact World.grownBy.refl _ _)⟩
theorem Stepped8.fin' {U U1 G X : Nat → Prop} {w V w' : World} {c dp rg rc rb : Nat} {D : Ch.Cache} {s : Shp} (hc : CIn U1 V c dp rg rc D) (hU1 : ∀ k, U1 k → (U k ∨ w.heap.size ≤ k) ∧ k ≠ rb) (hr : RefC X V D s) (hX : ∀ k, X k → (G k ∨ w.heap.size ≤ k) ∧ k < V.heap.size ∧ k ≠ rb) (hd : ∀ k, X k → ¬ U1 k) (hb : Beside U w V) (hrb : w.heap.size ≤ rb ∧ rb < V.heap.size) (hg : V.grownBy w' (some rb)) :
    Stepped8 U G w c dp D (.returned (.tuple #[refCV D s, .bool true])) w' := by
  have h2 := hb.size
  have h3 := hg.size
  have hH := hc.held
  refine ⟨U1, X, s, rg, rc, rfl, hc.keep hg (fun h => (hU1 _ h).2 rfl), hr.on fun k hk => ?_, ⟨?_, ?_, ?_, by omega, fun k hk hku => ?_⟩, fun k hk => ⟨(hU1 k hk).1, Nat.lt_of_lt_of_le (hH k hk) h3⟩, fun k hk => ?_, hd⟩
  · obtain ⟨g1, g2, g3⟩ := hX k hk
    exact hg.block k g2 (by intro e; exact g3 (Option.some.inj e))
  · rw [hg.os, hb.os]
  · rw [hg.tape, hb.tape]
  · rw [hg.output, hb.output]
  · rw [hg.block k (by omega) (by intro e; have := Option.some.inj e; omega), hb.block k hk hku]
  · obtain ⟨g1, g2, g3⟩ := hX k hk
    exact ⟨g1, by omega⟩
theorem CIn.disks {U : Nat → Prop} {w : World} {c dp rg rc : Nat} {C : Ch.Cache} (h : CIn U w c dp rg rc C) : ∃ F, DiskAt F w dp C.disk ∧ (∀ k, F k → U k) ∧ Held F w ∧
    ∀ (F' : Nat → Prop) (w' : World) (D : Bk.Disk), DiskAt F' w' dp D → Beside F w w' → Grows F w F' w' → CIn (More U w w') w' c dp rg rc { C with disk := D } ∧ Beside U w w' := by
  obtain ⟨F, M, xs, h1, h2, h3, h4, h5, h6⟩ := h
  refine ⟨F, h1.disk, h2, fun k hk => h6 k (h2 k hk), fun F' w' D hd hb hg => ⟨⟨F', M, xs, h1.disks hd hb hg, fun k hk => ?_, fun k hk => .inl (h3 k hk), .inl h4, .inl h5, More.held h6 hb.size⟩, ⟨hb.os, hb.tape, hb.output, hb.size, fun k hk hu => hb.block k hk fun hf => hu (h2 k hf)⟩⟩⟩
  obtain ⟨g1, g2⟩ := hg k hk
  rcases g1 with g1 | g1
  · exact .inl (h2 k g1)
  · exact .inr ⟨g1, g2⟩
theorem refArm8 {G : Nat → Prop} {w : World} {d E : Bk.Disk} {k : Nat} {v : Value} (hr : RefAt G w v d) (hG : Held G w) (after : Int) (hE : Bk.arm d after [] (-1) 0 = (E, k)) :
    Calls Tryz.prog 71 #[v, .int .i64 after, .slice none 0 0, .int .i64 (-1), .int .i64 0] w fun e w' => GivesRC G w E k e w' ∧ Below w.heap.size w w' := by
  have := refArm4 hr hG after (-1) 0 (.slice none 0 0) [] (RowAt.nil _ w) (.inl rfl)
  rw [hE] at this
  exact this
theorem refOn8 {G : Nat → Prop} {w : World} {d E : Bk.Disk} {v : Value} (hr : RefAt G w v d) (hG : Held G w) (hE : Bk.on d = E) :
    Calls Tryz.prog 11 #[v] w fun e w' => GivesR G w E e w' ∧ Below w.heap.size w w' := by subst hE; exact refOn4 hr hG

set_option maxRecDepth 100000 in
set_option maxHeartbeats 8000000 in
theorem changes08_forget {U G : Nat → Prop} {w : World} {c dp rg rc n sl : Nat} {C : Ch.Cache} {s : Shp} (hc : CIn U w c dp rg rc C) (hr : RefC G w C s) (hG : Held G w) (hGU : ∀ k, G k → ¬ U k) (hf : Ch.Fit n sl C) (hn : n ≤ 900) (A : Nat → Addr) (hsU : ∀ w1, Beside U w w1 → Sents w1 A) (kind id : Int) (fill : UInt8) (bad : Bool) (hk : kind = 5) :
    Calls Tryz.prog 39 #[.pointer (some ⟨c, 0, none⟩), refCV C s, .agg #[.int .i64 kind, .int .i64 id, .int .u8 (fill.toNat : Int), .bool bad]] w (Stepped8 U G w c dp (Ch.forget C)) := by
  subst hk
  have HC := Lib.hid hc
  have HUU := Lib.hid hc.held
  have HG := Lib.hid hG
  have HGU := Lib.hid hGU
  have HF := Lib.hid hf
  have HS := Lib.hid hsU
  obtain ⟨sa, sc, la, lc, wa, wq, ka, kc⟩ := s
  have H := Lib.hid hr
  unfold refCV
  clear hc hr hG hGU hf hsU
  go_enter Tryz.func39, Tryz.ntmps39
  go_upto_region 1 with fail
  obtain ⟨nb, hnb⟩ : ∃ nb, w.heap.size = nb := ⟨_, rfl⟩
  refine wp_name fun W hW => ?_
  have HH := Lib.hid (show Hav G w nb (nb + 1 + 1) (nb + 1) W C ⟨sa, sc, la, lc, wa, wq, ka, kc⟩ G from Hav.open_ H.out HG.out (by omega) (by rw [hW]; simp [hnb]) (by omega) (by rw [hW]; exact ((BoxAt.newAt _ _ hnb [_, _, _, _, _, _, _, _, _, _, _, _, _] _).alloc _).alloc _) (by rw [hW]; exact BoxAt.newAt _ _ (by simp [hnb]) [_, _, _, _, _, _, _, _, _, _, _, _, _] _) (by rw [hW]; go_grown))
  have HACT := Lib.hid (show BoxAt W (nb + 1) [.int .i64 5, .int .i64 id, .int .u8 (fill.toNat : Int), .bool bad] by rw [hW]; exact (BoxAt.newAt _ _ (by simp [hnb]) [_, _, _, _] _).alloc _)
  have HNB := Lib.hid hnb
  clear hW
  rw [hnb]
  clear hnb
  have HCW := Lib.hid (HC.out.below HH.out.below)
  obtain ⟨x0, x1, x2, x3, x4, x5, x6, x7, x8, x9, x10, x11, x12⟩ := HH.out.x
  obtain ⟨r0, r1, r2, r3⟩ := HACT.out.four
  go_upto_region 13 with (go_at_call 70; (refine (cforget_is HCW.out HF.out.ok).mono ?_); (rintro e w2 ⟨⟨v2, rfl⟩, ⟨rg2, rc2, hC2⟩, hB2⟩); (have HC2 := Lib.hid hC2); (have HB2 := Lib.hid hB2); (clear hC2 hB2))
  have hUlt : ∀ q, w.heap.size ≤ q → ¬ U q := fun q hq h => by have := HUU.out q h; omega
  have hlow := HH.out.low
  have hsz2 := HB2.out.size
  have hlt := HH.out.lt
  have hGW : ∀ k, G k → w2.heap[k]? = W.heap[k]? := fun k hk => HB2.out.block k (HH.out.held k hk) (HGU.out k hk)
  have HHG := Lib.hid (show Held G w2 from fun k hk => Nat.lt_of_lt_of_le (HH.out.held k hk) HB2.out.size)
  have HR2 := Lib.hid (HH.out.ref.on hGW)
  have HX2 := Lib.hid (HH.out.box.beside HB2.out (hUlt nb (by omega)))
  have HZ2 := Lib.hid (HH.out.res.beside HB2.out (hUlt (nb + 1 + 1) (by omega)))
  obtain ⟨N, hN⟩ : ∃ N, C.slots.length = N := ⟨_, rfl⟩
  have hN64 : N ≤ 64 := by rw [← hN]; exact HF.out.ok.len.2
  obtain ⟨D, hD⟩ : ∃ D, Ch.forget C = D := ⟨_, rfl⟩
  have HNEWC := Lib.hid (show Calls Tryz.prog 32 #[.agg #[.int .i64 (C.disk.blocks : Int), .int .i64 (C.disk.size : Int), .slice la C.disk.lasting.length lc, .slice wa C.disk.waiting.length wq, .bool C.disk.lit, .int .i64 C.disk.after, .int .i64 C.disk.torn, .int .i64 C.disk.cut, .slice ka C.disk.keep.length kc, .bool C.disk.off, .int .i64 C.disk.count], .int .i64 (N : Int)] w2 (GivesC G w2 D) from by
    have hh := refCnew_is HR2.out.diskAt HHG.out N hN64
    rw [show Ch.new C.disk N = D by rw [← hD, ← hN]; rfl] at hh
    exact hh)
  have HDD := Lib.hid hD
  have HUL := Lib.hid hUlt
  clear x0 x1 x2 x3 x4 x5 x6 x7 x8 x9 x10 x11 x12 r0 r1 r2 r3 hGW hUlt hD
  have hx : BoxAt w2 nb [.slice sa C.slots.length sc, .int .i64 (C.hand : Int), .int .i64 (C.disk.blocks : Int), .int .i64 (C.disk.size : Int), .slice la C.disk.lasting.length lc, .slice wa C.disk.waiting.length wq, .bool C.disk.lit, .int .i64 C.disk.after, .int .i64 C.disk.torn, .int .i64 C.disk.cut, .slice ka C.disk.keep.length kc, .bool C.disk.off, .int .i64 C.disk.count] := HX2.out
  rw [hN] at hx
  obtain ⟨x0, x1, x2, x3, x4, x5, x6, x7, x8, x9, x10, x11, x12⟩ := hx.thirteen
  clear hx hN
  go_wp2_with (go_at_call 32; (refine HNEWC.out.mono ?_); (rintro e w6 ⟨⟨⟨sa6, sc6, la6, lc6, wa6, wq6, ka6, kc6⟩, rfl, h6⟩, hb6⟩); (have H6 := Lib.hid h6); (have HB6 := Lib.hid hb6); (obtain ⟨y0, y1, y2, y3, y4, y5, y6, y7, y8, y9, y10, y11, y12⟩ := (HZ2.out.below hb6).thirteen); (obtain ⟨f0, f1, f2, f3, f4, f5, f6, f7, f8, f9, f10, f11, f12⟩ := (HZ2.out.below hb6).thirteenF); (clear h6 hb6); (unfold refCV))
  refine bodyPost_ret (v := .tuple #[refCV D ⟨sa6, sc6, la6, lc6, wa6, wq6, ka6, kc6⟩, .bool true]) (by simp [results, Tryz.results39, go_sem, refCV, y0, y1, y2, y3, y4, y5, y6, y7, y8, y9, y10, y11, y12]) rfl ?_
  rw [HDD.out]
  have hs6 := HB6.out.size
  have hw0 := HNB.out
  have hwW := HH.out.below.size
  refine Stepped8.fin' (U1 := More U W w2) (X := More G w2 w6) (HC2.out.below HB6.out |> fun h => by rw [HDD.out] at h; exact h) (fun k hk => ?_) H6.out (fun k hk => ?_) (fun k hk hku => ?_) (((Beside.of_below HH.out.below).same HB2.out).low (HB6.out.mono (by omega))) ⟨by omega, by omega⟩ (grown13 _ (nb + 1 + 1) _ _ _ _ _ _ _ _ _ _ _ _ _)
  · rcases hk with hk | hk
    · exact ⟨.inl hk, by have := HUU.out k hk; omega⟩
    · exact ⟨.inr (by omega), by omega⟩
  · rcases hk with hk | hk
    · have := HG.out k hk; exact ⟨.inl hk, by omega, by omega⟩
    · exact ⟨.inr (by omega), hk.2, by omega⟩
  · rcases hk with hk | hk
    · have h0 := HG.out k hk
      rcases hku with hku | hku
      · exact HGU.out k hk hku
      · omega
    · rcases hku with hku | hku
      · have := HUU.out k hku; omega
      · omega

set_option maxRecDepth 100000 in
set_option maxHeartbeats 8000000 in
theorem changes08_arm {U G : Nat → Prop} {w : World} {c dp rg rc n sl : Nat} {C : Ch.Cache} {s : Shp} (hc : CIn U w c dp rg rc C) (hr : RefC G w C s) (hG : Held G w) (hGU : ∀ k, G k → ¬ U k) (hf : Ch.Fit n sl C) (hn : n ≤ 900) (A : Nat → Addr) (hsU : ∀ w1, Beside U w w1 → Sents w1 A) (kind id : Int) (fill : UInt8) (bad : Bool) (hk : kind = 7) {E : Bk.Disk} {kk : Nat} (hE : Bk.arm C.disk id [] (-1) 0 = (E, kk)) :
    Calls Tryz.prog 39 #[.pointer (some ⟨c, 0, none⟩), refCV C s, .agg #[.int .i64 kind, .int .i64 id, .int .u8 (fill.toNat : Int), .bool bad]] w (Stepped8 U G w c dp { C with disk := E }) := by
  subst hk
  have HE := Lib.hid hE
  clear hE
  have HC := Lib.hid hc
  have HUU := Lib.hid hc.held
  have HG := Lib.hid hG
  have HGU := Lib.hid hGU
  have HF := Lib.hid hf
  have HS := Lib.hid hsU
  obtain ⟨sa, sc, la, lc, wa, wq, ka, kc⟩ := s
  have H := Lib.hid hr
  unfold refCV
  clear hc hr hG hGU hf hsU
  go_enter Tryz.func39, Tryz.ntmps39
  go_upto_region 1 with fail
  obtain ⟨nb, hnb⟩ : ∃ nb, w.heap.size = nb := ⟨_, rfl⟩
  refine wp_name fun W hW => ?_
  have HH := Lib.hid (show Hav G w nb (nb + 1 + 1) (nb + 1) W C ⟨sa, sc, la, lc, wa, wq, ka, kc⟩ G from Hav.open_ H.out HG.out (by omega) (by rw [hW]; simp [hnb]) (by omega) (by rw [hW]; exact ((BoxAt.newAt _ _ hnb [_, _, _, _, _, _, _, _, _, _, _, _, _] _).alloc _).alloc _) (by rw [hW]; exact BoxAt.newAt _ _ (by simp [hnb]) [_, _, _, _, _, _, _, _, _, _, _, _, _] _) (by rw [hW]; go_grown))
  have HACT := Lib.hid (show BoxAt W (nb + 1) [.int .i64 7, .int .i64 id, .int .u8 (fill.toNat : Int), .bool bad] by rw [hW]; exact (BoxAt.newAt _ _ (by simp [hnb]) [_, _, _, _] _).alloc _)
  have HNB := Lib.hid hnb
  clear hW
  rw [hnb]
  clear hnb
  have HCW := Lib.hid (HC.out.below HH.out.below)
  obtain ⟨x0, x1, x2, x3, x4, x5, x6, x7, x8, x9, x10, x11, x12⟩ := HH.out.x
  obtain ⟨r0, r1, r2, r3⟩ := HACT.out.four
  have HARM := Lib.hid (refArm8 HH.out.disk HH.out.held id HE.out)
  go_upto_region 16 with (go_at_call 71; (refine HARM.out.mono ?_); (rintro e w2 ⟨⟨v2, rfl, hr2⟩, hb2⟩); (obtain ⟨la2, lc2, wa2, wq2, ka2, kc2, rfl, h2⟩ := HH.out.ref.newDisk (fun k hk => hb2.block k (HH.out.held k hk)) (fun k hk => .inl hk) hr2); (have H2 := Lib.hid (show RefC (More G W w2) w2 { C with disk := E } ⟨sa, sc, la2, lc2, wa2, wq2, ka2, kc2⟩ from h2)); (have HB2 := Lib.hid hb2); (clear hr2 h2 hb2); (unfold refD))
  obtain ⟨db, hdb⟩ : ∃ db, w2.heap.size = db := ⟨_, rfl⟩
  refine wp_name fun V1 hV => ?_
  have hbV : Below w2.heap.size w2 V1 := by rw [hV]; exact (Below.refl _ _).alloc (Nat.le_refl _) _
  have HDB := Lib.hid (show BoxAt V1 db [.int .i64 (E.blocks : Int), .int .i64 (E.size : Int), .slice la2 E.lasting.length lc2, .slice wa2 E.waiting.length wq2, .bool E.lit, .int .i64 E.after, .int .i64 E.torn, .int .i64 E.cut, .slice ka2 E.keep.length kc2, .bool E.off, .int .i64 E.count] by rw [hV]; exact BoxAt.newAt _ _ hdb [_, _, _, _, _, _, _, _, _, _, _] _)
  have HBV1 := Lib.hid (below_step HB2.out hbV)
  have H2V := Lib.hid (show RefC (More G W V1) V1 { C with disk := E } ⟨sa, sc, la2, lc2, wa2, wq2, ka2, kc2⟩ from (H2.out.on fun k hk => hbV.block k (HH.out.more HB2.out k hk).2.1).mono fun k hk => hk.imp (fun q => q) fun q => ⟨q.1, Nat.lt_of_lt_of_le q.2 hbV.size⟩)
  have HH1 := Lib.hid (HH.out.later HBV1.out)
  have HA1 := Lib.hid (HACT.out.below HBV1.out)
  have HC1 := Lib.hid (HCW.out.below HBV1.out)
  clear hV hbV HARM x0 x1 x2 x3 x4 x5 x6 x7 x8 x9 x10 x11 x12 r0 r1 r2 r3
  rw [hdb]
  clear hdb
  obtain ⟨x0, x1, x2, x3, x4, x5, x6, x7, x8, x9, x10, x11, x12⟩ := HH1.out.x
  obtain ⟨f0, f1, f2, f3, f4, f5, f6, f7, f8, f9, f10, f11, f12⟩ := HH1.out.f
  obtain ⟨z0, z1, z2, z3, z4, z5, z6, z7, z8, z9, z10⟩ := HDB.out.eleven
  go_upto_region 17 with fail
  refine wp_name fun V hV => ?_
  obtain ⟨Z0, hZ0, hxx, hgg⟩ := BoxAt.fill11s (show BoxAt V1 nb [.slice sa C.slots.length sc, .int .i64 (C.hand : Int), .int .i64 (C.disk.blocks : Int), .int .i64 (C.disk.size : Int), .slice la C.disk.lasting.length lc, .slice wa C.disk.waiting.length wq, .bool C.disk.lit, .int .i64 C.disk.after, .int .i64 C.disk.torn, .int .i64 C.disk.cut, .slice ka C.disk.keep.length kc, .bool C.disk.off, .int .i64 C.disk.count] from HH1.out.box) (.int .i64 (E.blocks : Int)) (.int .i64 (E.size : Int)) (.slice la2 E.lasting.length lc2) (.slice wa2 E.waiting.length wq2) (.bool E.lit) (.int .i64 E.after) (.int .i64 E.torn) (.int .i64 E.cut) (.slice ka2 E.keep.length kc2) (.bool E.off) (.int .i64 E.count)
  rw [← hZ0] at hV
  clear hZ0
  subst hV
  obtain ⟨D, hDD⟩ : ∃ D, ({ C with disk := E } : Ch.Cache) = D := ⟨_, rfl⟩
  have HHV := Lib.hid (show Hav G w nb (nb + 1 + 1) (nb + 1) V D ⟨sa, sc, la2, lc2, wa2, wq2, ka2, kc2⟩ (More G W V1) from by rw [← hDD]; exact HH.out.store H2V.out HBV1.out hgg hxx)
  have HCD := Lib.hid (show ({ C with disk := E } : Ch.Cache) = D from hDD)
  have hUlt : ∀ q, w.heap.size ≤ q → ¬ U q := fun q hq h => by have := HUU.out q h; omega
  have hlow := HH.out.low
  have HUL := Lib.hid hUlt
  have HCV := Lib.hid (HC1.out.keep hgg (hUlt nb (by omega)))
  have HAV := Lib.hid (HA1.out.on (hgg.block (nb + 1) HA1.out.lt (by simp)))
  have hsg := hgg.size
  have hsb := HBV1.out.size
  have hlt0 := HH.out.lt
  clear hxx hgg hDD x0 x1 x2 x3 x4 x5 x6 x7 x8 x9 x10 x11 x12 f0 f1 f2 f3 f4 f5 f6 f7 f8 f9 f10 f11 f12 z0 z1 z2 z3 z4 z5 z6 z7 z8 z9 z10
  obtain ⟨x0, x1, x2, x3, x4, x5, x6, x7, x8, x9, x10, x11, x12⟩ := HHV.out.x
  obtain ⟨r0, r1, r2, r3⟩ := HAV.out.four
  have c0 := Far.dcell8 (w := V) (F := U) x0 (hUlt nb (by omega))
  have c1 := Far.dcell8 (w := V) (F := U) x1 (hUlt nb (by omega))
  have c2 := Far.dcell8 (w := V) (F := U) x2 (hUlt nb (by omega))
  have c3 := Far.dcell8 (w := V) (F := U) x3 (hUlt nb (by omega))
  have c4 := Far.dcell8 (w := V) (F := U) x4 (hUlt nb (by omega))
  have c5 := Far.dcell8 (w := V) (F := U) x5 (hUlt nb (by omega))
  have c6 := Far.dcell8 (w := V) (F := U) x6 (hUlt nb (by omega))
  have c7 := Far.dcell8 (w := V) (F := U) x7 (hUlt nb (by omega))
  have c8 := Far.dcell8 (w := V) (F := U) x8 (hUlt nb (by omega))
  have c9 := Far.dcell8 (w := V) (F := U) x9 (hUlt nb (by omega))
  have c10 := Far.dcell8 (w := V) (F := U) x10 (hUlt nb (by omega))
  have c11 := Far.dcell8 (w := V) (F := U) x11 (hUlt nb (by omega))
  have c12 := Far.dcell8 (w := V) (F := U) x12 (hUlt nb (by omega))
  have d1 := Far.dcell8 (w := V) (F := U) r1 (hUlt (nb + 1) (by omega))
  refine wp_region_mix (fun w' => ∃ x : Far V.drew U, w' = x.world) [8] 10 (by kernel_rfl) rfl ?_
  refine mix_reads_lit [0, 1, 3, 4, 6] 5 (by kernel_rfl) (by kernel_rfl) (by kernel_rfl) (by kernel_rfl) rfl (FarC.of (Beside.refl _ _)) ?_
  simp only [pick, List.filterMap_cons, List.filterMap_nil, List.getElem?_cons_succ, List.getElem?_cons_zero]
  repeat (first | go_big_quiet_step (fail) | quiet_step (fail))
  refine wpQuiet_nil ?_
  clear c0 c1 c2 c3 c4 c5 c6 c7 c8 c9 c10 c11 c12 x0 x1 x2 x3 x4 x5 x6 x7 x8 x9 x10 x11 x12 r0 r1 r2 r3 d1 hUlt
  have hmeet : ∀ wx, Beside U V.drew wx → Sents wx A := fun wx hx => HS.out wx ((Beside.of_below HHV.out.below).same ⟨hx.os, hx.tape, hx.output, hx.size, hx.block⟩)
  have hcd := HCV.out.below (Below.refl _ _).drew
  refine mix_deed_lit 2 4 (by kernel_rfl) (by kernel_rfl) rfl (fun K hK => ?_)
  simp only [comesUp, List.getElem?_cons_succ, List.getElem?_cons_zero]
  refine if_mk rfl ?_
  go_simp
  refine (cdisk_is hcd.box).mono ?_
  rintro e w3 ⟨rfl, rfl⟩
  refine hK _ _ (fun _ h => h) ?_
  clear hK K
  obtain ⟨F, hd1, hd2, hd3, hd4⟩ := hcd.disks
  refine mix_deed_lit 5 3 (by kernel_rfl) (by kernel_rfl) rfl (fun K hK => ?_)
  simp only [comesUp, List.getElem?_cons_succ, List.getElem?_cons_zero]
  refine if_mk rfl ?_
  go_simp
  refine (arm_to hd1 hd3 id (-1) 0 (.slice none 0 0) [] (RowAt.nil _ _) (by simp) HE.out A (hmeet _ (Beside.refl _ _))).mono ?_
  rintro e w4 ⟨F4, l4, v4, rfl, hE4, hdk4, hb4, hg4⟩
  obtain ⟨hC4, hB4⟩ := hd4 F4 w4 E hdk4 hb4 hg4
  rw [HCD.out] at hC4
  refine hK _ _ (fun _ _ => FarC.of hB4) ?_
  clear hK K
  have hB4' : Beside U V w4 := ⟨hB4.os, hB4.tape, hB4.output, hB4.size, hB4.block⟩
  have HC4 := Lib.hid (show CIn (More U V w4) w4 c dp rg rc D from hC4)
  have HB4 := Lib.hid hB4'
  have HE4 := Lib.hid hE4
  have HS4 := Lib.hid (hmeet w4 hB4)
  clear hE4 hC4 hB4 hB4' hmeet hdk4 hb4 hg4 hd1 hd2 hd3 hd4 hcd
  refine mix_deed_lit 7 2 (by kernel_rfl) (by kernel_rfl) rfl (fun K hK => ?_)
  simp only [comesUp, List.getElem?_cons_succ, List.getElem?_cons_zero]
  refine if_mk rfl ?_
  go_simp
  refine (tells08_any (w := w4) HS4.out l4 kk _ HE4.out _ rfl).mono ?_
  rintro e w5 ⟨rfl, rfl⟩
  refine hK _ _ (fun _ h => h) ?_
  clear hK K
  have HZ4 := Lib.hid (HHV.out.res.beside HB4.out (HUL.out _ (by omega)))
  obtain ⟨y0, y1, y2, y3, y4, y5, y6, y7, y8, y9, y10, y11, y12⟩ := HZ4.out.thirteen
  obtain ⟨f0, f1, f2, f3, f4, f5, f6, f7, f8, f9, f10, f11, f12⟩ := HZ4.out.thirteenF
  refine mix_deed_lit 8 1 (by kernel_rfl) (by kernel_rfl) rfl (fun K hK => ?_)
  simp only [comesUp, List.getElem?_cons_succ, List.getElem?_cons_zero]
  refine if_mk rfl ?_
  go_simp
  refine hK _ _ (fun h => by simp [keeps] at h) ?_
  clear hK K y0 y1 y2 y3 y4 y5 y6 y7 y8 y9 y10 y11 y12 f0 f1 f2 f3 f4 f5 f6 f7 f8 f9 f10 f11 f12
  obtain ⟨Z0, hZ0, hf, hgz⟩ := HZ4.out.fill13s (.slice sa D.slots.length sc) (.int .i64 (D.hand : Int)) (.int .i64 (D.disk.blocks : Int)) (.int .i64 (D.disk.size : Int)) (.slice la2 D.disk.lasting.length lc2) (.slice wa2 D.disk.waiting.length wq2) (.bool D.disk.lit) (.int .i64 D.disk.after) (.int .i64 D.disk.torn) (.int .i64 D.disk.cut) (.slice ka2 D.disk.keep.length kc2) (.bool D.disk.off) (.int .i64 D.disk.count)
  rw [← hZ0]
  clear hZ0
  refine mix_flat_lit [9] 0 (by kernel_rfl) (by kernel_rfl) (by kernel_rfl) (by kernel_rfl) rfl ?_
  simp only [pick, List.filterMap_cons, List.filterMap_nil, List.getElem?_cons_succ, List.getElem?_cons_zero]
  repeat (first | go_big_quiet_step (fail) | quiet_step (fail))
  refine wpQuiet_nil ?_
  refine mix_done_lit (by kernel_rfl) ?_
  have HGZ := Lib.hid hgz
  obtain ⟨z0, z1, z2, z3, z4, z5, z6, z7, z8, z9, z10, z11, z12⟩ := hf.thirteen
  clear hf hgz
  go_wp2_with fail
  refine bodyPost_ret (v := .tuple #[refCV D ⟨sa, sc, la2, lc2, wa2, wq2, ka2, kc2⟩, .bool true]) (by simp [results, Tryz.results39, go_sem, refCV, z0, z1, z2, z3, z4, z5, z6, z7, z8, z9, z10, z11, z12]) rfl ?_
  rw [HCD.out]
  exact Stepped8.fin HC4.out HHV.out.ref (fun k hk => by have := HHV.out.apart k hk; exact ⟨this.1, this.2.1, this.2.2.2.1⟩) HUU.out HGU.out HHV.out.below HB4.out ⟨by omega, by omega⟩ HGZ.out

set_option maxRecDepth 100000 in
set_option maxHeartbeats 8000000 in
theorem changes08_on {U G : Nat → Prop} {w : World} {c dp rg rc n sl : Nat} {C : Ch.Cache} {s : Shp} (hc : CIn U w c dp rg rc C) (hr : RefC G w C s) (hG : Held G w) (hGU : ∀ k, G k → ¬ U k) (hf : Ch.Fit n sl C) (hn : n ≤ 900) (A : Nat → Addr) (hsU : ∀ w1, Beside U w w1 → Sents w1 A) (kind id : Int) (fill : UInt8) (bad : Bool) (hk : kind = 8) {E : Bk.Disk} (hE : Bk.on C.disk = E) :
    Calls Tryz.prog 39 #[.pointer (some ⟨c, 0, none⟩), refCV C s, .agg #[.int .i64 kind, .int .i64 id, .int .u8 (fill.toNat : Int), .bool bad]] w (Stepped8 U G w c dp { C with disk := E }) := by
  subst hk
  have HE := Lib.hid hE
  clear hE
  have HC := Lib.hid hc
  have HUU := Lib.hid hc.held
  have HG := Lib.hid hG
  have HGU := Lib.hid hGU
  have HF := Lib.hid hf
  have HS := Lib.hid hsU
  obtain ⟨sa, sc, la, lc, wa, wq, ka, kc⟩ := s
  have H := Lib.hid hr
  unfold refCV
  clear hc hr hG hGU hf hsU
  go_enter Tryz.func39, Tryz.ntmps39
  go_upto_region 1 with fail
  obtain ⟨nb, hnb⟩ : ∃ nb, w.heap.size = nb := ⟨_, rfl⟩
  refine wp_name fun W hW => ?_
  have HH := Lib.hid (show Hav G w nb (nb + 1 + 1) (nb + 1) W C ⟨sa, sc, la, lc, wa, wq, ka, kc⟩ G from Hav.open_ H.out HG.out (by omega) (by rw [hW]; simp [hnb]) (by omega) (by rw [hW]; exact ((BoxAt.newAt _ _ hnb [_, _, _, _, _, _, _, _, _, _, _, _, _] _).alloc _).alloc _) (by rw [hW]; exact BoxAt.newAt _ _ (by simp [hnb]) [_, _, _, _, _, _, _, _, _, _, _, _, _] _) (by rw [hW]; go_grown))
  have HACT := Lib.hid (show BoxAt W (nb + 1) [.int .i64 8, .int .i64 id, .int .u8 (fill.toNat : Int), .bool bad] by rw [hW]; exact (BoxAt.newAt _ _ (by simp [hnb]) [_, _, _, _] _).alloc _)
  have HNB := Lib.hid hnb
  clear hW
  rw [hnb]
  clear hnb
  have HCW := Lib.hid (HC.out.below HH.out.below)
  obtain ⟨x0, x1, x2, x3, x4, x5, x6, x7, x8, x9, x10, x11, x12⟩ := HH.out.x
  obtain ⟨r0, r1, r2, r3⟩ := HACT.out.four
  obtain ⟨F, hd1, hd2, hd3, hd4⟩ := HCW.out.disks
  have HON := Lib.hid (on_to hd1 HE.out)
  have HD4 := Lib.hid hd4
  have HD3 := Lib.hid hd3
  clear hd1 hd2 hd3 hd4
  go_upto_region 20 with (first
    | (go_at_call 10; (refine HON.out.mono ?_); (rintro e w2 ⟨⟨v2, rfl⟩, hdk, hbf⟩); (obtain ⟨hC2, hB2⟩ := HD4.out F w2 E hdk hbf (fun k hk => ⟨.inl hk, Nat.lt_of_lt_of_le (HD3.out k hk) hbf.size⟩)); (have HC2 := Lib.hid hC2); (have HB2 := Lib.hid hB2); (clear hC2 hB2 hdk hbf))
    | (go_at_call 9; (refine (cdisk_is HCW.out.box).mono ?_); (rintro e w1 ⟨rfl, rfl⟩)))
  have hUlt : ∀ q, w.heap.size ≤ q → ¬ U q := fun q hq h => by have := HUU.out q h; omega
  have hlow := HH.out.low
  have hsz2 := HB2.out.size
  have hlt := HH.out.lt
  have hGW : ∀ k, G k → w2.heap[k]? = W.heap[k]? := fun k hk => HB2.out.block k (HH.out.held k hk) (HGU.out k hk)
  have HHG := Lib.hid (show Held G w2 from fun k hk => Nat.lt_of_lt_of_le (HH.out.held k hk) HB2.out.size)
  have HR2 := Lib.hid (HH.out.ref.on hGW)
  have HX2 := Lib.hid (HH.out.box.beside HB2.out (hUlt nb (by omega)))
  have HZ2 := Lib.hid (HH.out.res.beside HB2.out (hUlt (nb + 1 + 1) (by omega)))
  have HONR := Lib.hid (show Calls Tryz.prog 11 #[.agg #[.int .i64 (C.disk.blocks : Int), .int .i64 (C.disk.size : Int), .slice la C.disk.lasting.length lc, .slice wa C.disk.waiting.length wq, .bool C.disk.lit, .int .i64 C.disk.after, .int .i64 C.disk.torn, .int .i64 C.disk.cut, .slice ka C.disk.keep.length kc, .bool C.disk.off, .int .i64 C.disk.count]] w2 fun e w' => GivesR G w2 E e w' ∧ Below w2.heap.size w2 w' from refOn8 HR2.out.diskAt HHG.out HE.out)
  have HUL := Lib.hid hUlt
  clear x0 x1 x2 x3 x4 x5 x6 x7 x8 x9 x10 x11 x12 r0 r1 r2 r3 hGW hUlt
  have hx : BoxAt w2 nb [.slice sa C.slots.length sc, .int .i64 (C.hand : Int), .int .i64 (C.disk.blocks : Int), .int .i64 (C.disk.size : Int), .slice la C.disk.lasting.length lc, .slice wa C.disk.waiting.length wq, .bool C.disk.lit, .int .i64 C.disk.after, .int .i64 C.disk.torn, .int .i64 C.disk.cut, .slice ka C.disk.keep.length kc, .bool C.disk.off, .int .i64 C.disk.count] := HX2.out
  obtain ⟨x0, x1, x2, x3, x4, x5, x6, x7, x8, x9, x10, x11, x12⟩ := hx.thirteen
  clear hx
  go_upto_region 21 with (go_at_call 11; (refine HONR.out.mono ?_); (rintro e w3 ⟨⟨v3, rfl, hr3⟩, hb3⟩); (obtain ⟨la2, lc2, wa2, wq2, ka2, kc2, rfl, h3⟩ := HR2.out.newDisk (fun k hk => hb3.block k (HHG.out k hk)) (fun k hk => .inl hk) hr3); (have H3 := Lib.hid (show RefC (More G w2 w3) w3 { C with disk := E } ⟨sa, sc, la2, lc2, wa2, wq2, ka2, kc2⟩ from h3)); (have HB3 := Lib.hid hb3); (obtain ⟨y0, y1, y2, y3, y4, y5, y6, y7, y8, y9, y10, y11, y12⟩ := (show BoxAt w3 nb [.slice sa C.slots.length sc, .int .i64 (C.hand : Int), .int .i64 (C.disk.blocks : Int), .int .i64 (C.disk.size : Int), .slice la C.disk.lasting.length lc, .slice wa C.disk.waiting.length wq, .bool C.disk.lit, .int .i64 C.disk.after, .int .i64 C.disk.torn, .int .i64 C.disk.cut, .slice ka C.disk.keep.length kc, .bool C.disk.off, .int .i64 C.disk.count] from HX2.out.below hb3).thirteen); (obtain ⟨f0, f1, f2, f3, f4, f5, f6, f7, f8, f9, f10, f11, f12⟩ := (show BoxAt w3 nb [.slice sa C.slots.length sc, .int .i64 (C.hand : Int), .int .i64 (C.disk.blocks : Int), .int .i64 (C.disk.size : Int), .slice la C.disk.lasting.length lc, .slice wa C.disk.waiting.length wq, .bool C.disk.lit, .int .i64 C.disk.after, .int .i64 C.disk.torn, .int .i64 C.disk.cut, .slice ka C.disk.keep.length kc, .bool C.disk.off, .int .i64 C.disk.count] from HX2.out.below hb3).thirteenF); (clear hr3 h3 hb3); (unfold refD))
  refine wp_name fun V hV => ?_
  obtain ⟨Z0, hZ0, hxx, hgg⟩ := BoxAt.fill11s (show BoxAt w3 nb [.slice sa C.slots.length sc, .int .i64 (C.hand : Int), .int .i64 (C.disk.blocks : Int), .int .i64 (C.disk.size : Int), .slice la C.disk.lasting.length lc, .slice wa C.disk.waiting.length wq, .bool C.disk.lit, .int .i64 C.disk.after, .int .i64 C.disk.torn, .int .i64 C.disk.cut, .slice ka C.disk.keep.length kc, .bool C.disk.off, .int .i64 C.disk.count] from HX2.out.below HB3.out) (.int .i64 (E.blocks : Int)) (.int .i64 (E.size : Int)) (.slice la2 E.lasting.length lc2) (.slice wa2 E.waiting.length wq2) (.bool E.lit) (.int .i64 E.after) (.int .i64 E.torn) (.int .i64 E.cut) (.slice ka2 E.keep.length kc2) (.bool E.off) (.int .i64 E.count)
  rw [← hZ0] at hV
  clear hZ0
  subst hV
  have HGG := Lib.hid hgg
  have HXX := Lib.hid hxx
  have HZV := Lib.hid ((HZ2.out.below HB3.out).on (hgg.block (nb + 1 + 1) (by have := HB3.out.size; omega) (by simp; omega)))
  clear hgg hxx x0 x1 x2 x3 x4 x5 x6 x7 x8 x9 x10 x11 x12 y0 y1 y2 y3 y4 y5 y6 y7 y8 y9 y10 y11 y12 f0 f1 f2 f3 f4 f5 f6 f7 f8 f9 f10 f11 f12
  obtain ⟨x0, x1, x2, x3, x4, x5, x6, x7, x8, x9, x10, x11, x12⟩ := HXX.out.thirteen
  obtain ⟨y0, y1, y2, y3, y4, y5, y6, y7, y8, y9, y10, y11, y12⟩ := HZV.out.thirteen
  obtain ⟨f0, f1, f2, f3, f4, f5, f6, f7, f8, f9, f10, f11, f12⟩ := HZV.out.thirteenF
  go_wp2_with fail
  refine bodyPost_ret (v := .tuple #[refCV { C with disk := E } ⟨sa, sc, la2, lc2, wa2, wq2, ka2, kc2⟩, .bool true]) (by simp [results, Tryz.results39, go_sem, refCV, y0, y1, y2, y3, y4, y5, y6, y7, y8, y9, y10, y11, y12]) rfl ?_
  have hs3 := HB3.out.size
  have hsg := HGG.out.size
  have hw0 := HNB.out
  have hwW := HH.out.below.size
  have hXm : ∀ k, More G w2 w3 k → (G k ∨ w.heap.size ≤ k) ∧ k < w3.heap.size ∧ k ≠ nb ∧ k ≠ nb + 1 + 1 := fun k hk => by
    rcases hk with hk | hk
    · have := HG.out k hk; exact ⟨.inl hk, by omega, by omega, by omega⟩
    · exact ⟨.inr (by omega), hk.2, by omega, by omega⟩
  have hnbU : ¬ More U W w2 nb := fun h => by
    rcases h with h | h
    · exact HUL.out nb (by omega) h
    · omega
  refine Stepped8.fin' (U1 := More U W w2) (X := More G w2 w3) ((HC2.out.below HB3.out).keep HGG.out hnbU) (fun k hk => ?_) (H3.out.on fun k hk => HGG.out.block k (hXm k hk).2.1 (by intro e; exact (hXm k hk).2.2.1 (Option.some.inj e))) (fun k hk => ⟨(hXm k hk).1, by have := (hXm k hk).2.1; omega, (hXm k hk).2.2.2⟩) (fun k hk hku => ?_) ?_ ⟨by omega, by omega⟩ (grown13 _ (nb + 1 + 1) _ _ _ _ _ _ _ _ _ _ _ _ _)
  · rcases hk with hk | hk
    · exact ⟨.inl hk, by have := HUU.out k hk; omega⟩
    · exact ⟨.inr (by omega), by omega⟩
  · rcases hk with hk | hk
    · have h0 := HG.out k hk
      rcases hku with hku | hku
      · exact HGU.out k hk hku
      · omega
    · rcases hku with hku | hku
      · have := HUU.out k hku; omega
      · omega
  · have hb3 := ((Beside.of_below HH.out.below).same HB2.out).low (HB3.out.mono (by omega))
    exact ⟨by rw [HGG.out.os, hb3.os], by rw [HGG.out.tape, hb3.tape], by rw [HGG.out.output, hb3.output], by have := hb3.size; omega, fun k hk hku => by rw [HGG.out.block k (by omega) (by intro e; have := Option.some.inj e; omega), hb3.block k hk hku]⟩
end Go.Proofs.YtflbioiildndoaaGreatDoor

