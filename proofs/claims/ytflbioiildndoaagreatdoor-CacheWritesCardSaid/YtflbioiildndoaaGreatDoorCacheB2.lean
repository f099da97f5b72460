/- the statements of caches: changes: Drop (printed by wip/tools/rc/mk_changes.py and gen_refc.py) -/
import Derived.Test.YtflbioiildndoaaGreatDoorCacheB1
namespace Go.Proofs.YtflbioiildndoaaGreatDoor
open Go.RowKit
set_option linter.unusedVariables false
set_option linter.unusedSimpArgs false

set_option maxRecDepth 100000 in
set_option maxHeartbeats 8000000 in
theorem changes08_drop {U G : Nat → Prop} {w : World} {c dp rg rc n sl : Nat} {C : Ch.Cache} {s : Shp} (hc : CIn U w c dp rg rc C) (hr : RefC G w C s) (hG : Held G w) (hGU : ∀ k, G k → ¬ U k) (hf : Ch.Fit n sl C) (hn : n ≤ 900) (A : Nat → Addr) (hsU : ∀ w1, Beside U w w1 → Sents w1 A) (kind id : Int) (fill : UInt8) (bad : Bool) (hk : (kind == 2) = false ∧ (kind == 3) = false ∧ (kind == 4) = false ∧ (kind == 5) = false ∧ (kind == 7) = false ∧ (kind == 8) = false) {D : Ch.Cache} {kk : Bool} (hD : Ch.drop C id = (D, kk)) :
    Calls Tryz.prog 39 #[.pointer (some ⟨c, 0, none⟩), refCV C s, .agg #[.int .i64 kind, .int .i64 id, .int .u8 (fill.toNat : Int), .bool bad]] w (Stepped8 U G w c dp D) := by
  have HD := Lib.hid hD
  clear hD
  obtain ⟨hk2, hk3, hk4, hk5, hk7, hk8⟩ := hk
  have HC := Lib.hid hc
  have HUU := Lib.hid hc.held
  have HG := Lib.hid hG
  have HGU := Lib.hid hGU
  have HF := Lib.hid hf
  have HS := Lib.hid hsU
  obtain ⟨sa, sc, la, lc, wa, wq, ka, kc⟩ := s
  have H := Lib.hid hr
  unfold refCV
  clear hc hr hG hGU hf hsU
  go_enter Tryz.func39, Tryz.ntmps39
  go_upto_region 1 with fail
  obtain ⟨nb, hnb⟩ : ∃ nb, w.heap.size = nb := ⟨_, rfl⟩
  refine wp_name fun W hW => ?_
  have HH := Lib.hid (show Hav G w nb (nb + 1 + 1) (nb + 1) W C ⟨sa, sc, la, lc, wa, wq, ka, kc⟩ G from Hav.open_ H.out HG.out (by omega) (by rw [hW]; simp [hnb]) (by omega) (by rw [hW]; exact ((BoxAt.newAt _ _ hnb [_, _, _, _, _, _, _, _, _, _, _, _, _] _).alloc _).alloc _) (by rw [hW]; exact BoxAt.newAt _ _ (by simp [hnb]) [_, _, _, _, _, _, _, _, _, _, _, _, _] _) (by rw [hW]; go_grown))
  have HACT := Lib.hid (show BoxAt W (nb + 1) [.int .i64 kind, .int .i64 id, .int .u8 (fill.toNat : Int), .bool bad] by rw [hW]; exact (BoxAt.newAt _ _ (by simp [hnb]) [_, _, _, _] _).alloc _)
  have HNB := Lib.hid hnb
  clear hW
  rw [hnb]
  clear hnb
  have HCW := Lib.hid (HC.out.below HH.out.below)
  obtain ⟨x0, x1, x2, x3, x4, x5, x6, x7, x8, x9, x10, x11, x12⟩ := HH.out.x
  obtain ⟨r0, r1, r2, r3⟩ := HACT.out.four
  have HDrop := Lib.hid (show Calls Tryz.prog 73 #[.agg #[.slice sa C.slots.length sc, .int .i64 (C.hand : Int), .int .i64 (C.disk.blocks : Int), .int .i64 (C.disk.size : Int), .slice la C.disk.lasting.length lc, .slice wa C.disk.waiting.length wq, .bool C.disk.lit, .int .i64 C.disk.after, .int .i64 C.disk.torn, .int .i64 C.disk.cut, .slice ka C.disk.keep.length kc, .bool C.disk.off, .int .i64 C.disk.count], .int .i64 id] W (GivesCB G W D kk) from by
    have hh := refCdrop_is HH.out.ref HH.out.held HF.out.ok id HD.out
    unfold refCV at hh
    exact hh)
  go_upto_region 23 with (go_at_call 73; (refine HDrop.out.mono ?_); (rintro e w2 ⟨⟨⟨sa2, sc2, la2, lc2, wa2, wq2, ka2, kc2⟩, rfl, h2⟩, hb2⟩); (have H2 := Lib.hid h2); (have HB2 := Lib.hid hb2); (clear h2 hb2); (unfold refCV))
  obtain ⟨xb, hxb⟩ : ∃ xb, w2.heap.size = xb := ⟨_, rfl⟩
  refine wp_name fun V hV => ?_
  have hbV : Below w2.heap.size w2 V := by rw [hV]; exact (Below.refl _ _).alloc (Nat.le_refl _) _
  have HXB := Lib.hid (show BoxAt V xb [.slice sa2 D.slots.length sc2, .int .i64 (D.hand : Int), .int .i64 (D.disk.blocks : Int), .int .i64 (D.disk.size : Int), .slice la2 D.disk.lasting.length lc2, .slice wa2 D.disk.waiting.length wq2, .bool D.disk.lit, .int .i64 D.disk.after, .int .i64 D.disk.torn, .int .i64 D.disk.cut, .slice ka2 D.disk.keep.length kc2, .bool D.disk.off, .int .i64 D.disk.count] by rw [hV]; exact BoxAt.newAt _ _ hxb [_, _, _, _, _, _, _, _, _, _, _, _, _] _)
  have HBWV := Lib.hid (below_step HB2.out hbV)
  have HMORE := Lib.hid (HH.out.more HB2.out)
  have H2V := Lib.hid (H2.out.on (w' := V) fun k hk => hbV.block k (HMORE.out k hk).2.1)
  have hxbl : w2.heap.size ≤ xb := Nat.le_of_eq hxb
  have hsV := hbV.size
  have hs2 := HB2.out.size
  have hl0 := HH.out.lt
  have hw0 := HNB.out
  clear hV hbV HDrop x0 x1 x2 x3 x4 x5 x6 x7 x8 x9 x10 x11 x12 r0 r1 r2 r3
  rw [hxb]
  clear hxb
  have HHV := Lib.hid (HH.out.later HBWV.out)
  have HAV := Lib.hid (HACT.out.below HBWV.out)
  have HCV := Lib.hid (HCW.out.below HBWV.out)
  have hUlt : ∀ q, w.heap.size ≤ q → ¬ U q := fun q hq h => by have := HUU.out q h; omega
  have HUL := Lib.hid hUlt
  have hFlt : ∀ q, w.heap.size ≤ q → q ≠ nb + 1 + 1 → ¬ (U q ∨ q = nb + 1 + 1) := fun q hq hn h => h.elim (hUlt q hq) hn
  obtain ⟨x0, x1, x2, x3, x4, x5, x6, x7, x8, x9, x10, x11, x12⟩ := HXB.out.thirteen
  have c0 := Far.dcell8 (w := V) (F := fun k => U k ∨ k = nb + 1 + 1) x0 (hFlt xb (by omega) (by omega))
  have c1 := Far.dcell8 (w := V) (F := fun k => U k ∨ k = nb + 1 + 1) x1 (hFlt xb (by omega) (by omega))
  have c2 := Far.dcell8 (w := V) (F := fun k => U k ∨ k = nb + 1 + 1) x2 (hFlt xb (by omega) (by omega))
  have c3 := Far.dcell8 (w := V) (F := fun k => U k ∨ k = nb + 1 + 1) x3 (hFlt xb (by omega) (by omega))
  have c4 := Far.dcell8 (w := V) (F := fun k => U k ∨ k = nb + 1 + 1) x4 (hFlt xb (by omega) (by omega))
  have c5 := Far.dcell8 (w := V) (F := fun k => U k ∨ k = nb + 1 + 1) x5 (hFlt xb (by omega) (by omega))
  have c6 := Far.dcell8 (w := V) (F := fun k => U k ∨ k = nb + 1 + 1) x6 (hFlt xb (by omega) (by omega))
  have c7 := Far.dcell8 (w := V) (F := fun k => U k ∨ k = nb + 1 + 1) x7 (hFlt xb (by omega) (by omega))
  have c8 := Far.dcell8 (w := V) (F := fun k => U k ∨ k = nb + 1 + 1) x8 (hFlt xb (by omega) (by omega))
  have c9 := Far.dcell8 (w := V) (F := fun k => U k ∨ k = nb + 1 + 1) x9 (hFlt xb (by omega) (by omega))
  have c10 := Far.dcell8 (w := V) (F := fun k => U k ∨ k = nb + 1 + 1) x10 (hFlt xb (by omega) (by omega))
  have c11 := Far.dcell8 (w := V) (F := fun k => U k ∨ k = nb + 1 + 1) x11 (hFlt xb (by omega) (by omega))
  have c12 := Far.dcell8 (w := V) (F := fun k => U k ∨ k = nb + 1 + 1) x12 (hFlt xb (by omega) (by omega))
  obtain ⟨r0, r1, r2, r3⟩ := HAV.out.four
  have d1 := Far.dcell8 (w := V) (F := fun k => U k ∨ k = nb + 1 + 1) r1 (hFlt (nb + 1) (by omega) (by omega))
  refine wp_region_mix (fun w' => ∃ x : Far V.drew (fun k => U k ∨ k = nb + 1 + 1), w' = x.world) [] 9 (by kernel_rfl) rfl ?_
  refine mix_reads_lit [0, 1, 2, 3, 5] 4 (by kernel_rfl) (by kernel_rfl) (by kernel_rfl) (by kernel_rfl) rfl (FarC.of (Beside.refl _ _)) ?_
  simp only [pick, List.filterMap_cons, List.filterMap_nil, List.getElem?_cons_succ, List.getElem?_cons_zero]
  repeat (first | go_big_quiet_step (fail) | quiet_step (fail))
  refine wpQuiet_nil ?_
  clear c0 c1 c2 c3 c4 c5 c6 c7 c8 c9 c10 c11 c12 x0 x1 x2 x3 x4 x5 x6 x7 x8 x9 x10 x11 x12 r0 r1 r2 r3 d1 hUlt hFlt
  have hmeet : ∀ wx, Beside U V.drew wx → Sents wx A := fun wx hx => HS.out wx ((Beside.of_below HHV.out.below).same ⟨hx.os, hx.tape, hx.output, hx.size, hx.block⟩)
  refine mix_deed_lit 4 3 (by kernel_rfl) (by kernel_rfl) rfl (fun K hK => ?_)
  simp only [comesUp, List.getElem?_cons_succ, List.getElem?_cons_zero]
  refine if_mk rfl ?_
  go_simp
  refine ((cdrop_is (HCV.out.below (Below.refl _ _).drew) HF.out.ok id HD.out)).mono ?_
  rintro e w4 ⟨rfl, hC4, hB4⟩
  refine hK _ _ (fun _ _ => FarC.of ⟨hB4.os, hB4.tape, hB4.output, hB4.size, fun k hk h => hB4.block k hk fun hu => h (.inl hu)⟩) ?_
  clear hK K
  have hB4' : Beside U V w4 := ⟨hB4.os, hB4.tape, hB4.output, hB4.size, hB4.block⟩
  have HC4 := Lib.hid (show CIn (More U V w4) w4 c dp rg rc D from hC4)
  have HB4 := Lib.hid hB4'
  clear hC4 hB4 hB4' hmeet
  refine mix_reads_lit [6] 2 (by kernel_rfl) (by kernel_rfl) (by kernel_rfl) (by kernel_rfl) rfl (FarC.of (show Beside (fun k => U k ∨ k = nb + 1 + 1) V.drew w4 from ⟨HB4.out.os, HB4.out.tape, HB4.out.output, HB4.out.size, fun k hk h => HB4.out.block k hk fun hu => h (.inl hu)⟩)) ?_
  simp only [pick, List.filterMap_cons, List.filterMap_nil, List.getElem?_cons_succ, List.getElem?_cons_zero]
  repeat (first | go_big_quiet_step (fail) | quiet_step (fail))
  refine wpQuiet_nil ?_
  have HZ4 := Lib.hid (HHV.out.res.beside HB4.out (HUL.out _ (by omega)))
  obtain ⟨y0, y1, y2, y3, y4, y5, y6, y7, y8, y9, y10, y11, y12⟩ := HZ4.out.thirteen
  obtain ⟨f0, f1, f2, f3, f4, f5, f6, f7, f8, f9, f10, f11, f12⟩ := HZ4.out.thirteenF
  refine mix_deed_lit 7 1 (by kernel_rfl) (by kernel_rfl) rfl (fun K hK => ?_)
  simp only [comesUp, List.getElem?_cons_succ, List.getElem?_cons_zero]
  refine if_mk rfl ?_
  go_simp
  obtain ⟨Z0, hZ0, hf, hgz⟩ := HZ4.out.fill13s (.slice sa2 D.slots.length sc2) (.int .i64 (D.hand : Int)) (.int .i64 (D.disk.blocks : Int)) (.int .i64 (D.disk.size : Int)) (.slice la2 D.disk.lasting.length lc2) (.slice wa2 D.disk.waiting.length wq2) (.bool D.disk.lit) (.int .i64 D.disk.after) (.int .i64 D.disk.torn) (.int .i64 D.disk.cut) (.slice ka2 D.disk.keep.length kc2) (.bool D.disk.off) (.int .i64 D.disk.count)
  rw [← hZ0]
  clear hZ0
  refine hK _ _ (fun _ _ => FarC.of (show Beside (fun k => U k ∨ k = nb + 1 + 1) V.drew Z0 from ⟨by rw [hgz.os]; exact HB4.out.os, by rw [hgz.tape]; exact HB4.out.tape, by rw [hgz.output]; exact HB4.out.output, Nat.le_trans HB4.out.size hgz.size, fun k hk h => by
    rw [hgz.block k (Nat.lt_of_lt_of_le hk HB4.out.size) (by intro e; exact h (.inr (Option.some.inj e)))]
    exact HB4.out.block k hk fun hu => h (.inl hu)⟩)) ?_
  clear hK K y0 y1 y2 y3 y4 y5 y6 y7 y8 y9 y10 y11 y12 f0 f1 f2 f3 f4 f5 f6 f7 f8 f9 f10 f11 f12
  refine mix_flat_lit [8] 0 (by kernel_rfl) (by kernel_rfl) (by kernel_rfl) (by kernel_rfl) rfl ?_
  simp only [pick, List.filterMap_cons, List.filterMap_nil, List.getElem?_cons_succ, List.getElem?_cons_zero]
  repeat (first | go_big_quiet_step (fail) | quiet_step (fail))
  refine wpQuiet_nil ?_
  refine mix_done_lit (by kernel_rfl) ?_
  have HGZ := Lib.hid hgz
  obtain ⟨z0, z1, z2, z3, z4, z5, z6, z7, z8, z9, z10, z11, z12⟩ := hf.thirteen
  clear hf hgz
  go_wp2_with fail
  refine bodyPost_ret (v := .tuple #[refCV D ⟨sa2, sc2, la2, lc2, wa2, wq2, ka2, kc2⟩, .bool true]) (by simp [results, Tryz.results39, go_sem, refCV, z0, z1, z2, z3, z4, z5, z6, z7, z8, z9, z10, z11, z12]) rfl ?_
  exact Stepped8.fin HC4.out H2V.out (fun k hk => by have := HMORE.out k hk; exact ⟨this.1, by omega, this.2.2.2.1⟩) HUU.out HGU.out HHV.out.below HB4.out ⟨by omega, by omega⟩ HGZ.out
end Go.Proofs.YtflbioiildndoaaGreatDoor

