/- the statements of caches: changes: Pin, Unpin, Flush, Drop (printed by wip/tools/rc/mk_changes.py and gen_refc.py) -/
import Derived.Test.YtflbioiildndoaaGreatDoorRefC8
import Derived.Test.YtflbioiildndoaaGreatDoorRefC10
import Derived.Test.YtflbioiildndoaaGreatDoorRefC12
import Derived.Test.YtflbioiildndoaaGreatDoorTells08
namespace Go.Proofs.YtflbioiildndoaaGreatDoor
open Go.RowKit
set_option linter.unusedVariables false
set_option linter.unusedSimpArgs false

theorem Far.dcell8 {w : World} {F : Nat → Prop} {a : Addr} {v : Value} (h : w.cell? a = some v) (hr : ¬ F a.block) (x : Far w.drew F) : x.world.cell? a = some v := Far.cell (w := w.drew) h hr x
/-- what a step tells: the document's cache and the program's are one, in memory apart -/
def Stepped8 (U G : Nat → Prop) (w : World) (c dp : Nat) (C : Ch.Cache) (e : Ending) (w' : World) : Prop :=
  ∃ (U' G' : Nat → Prop) (s : Shp) (rg rc : Nat), e = .returned (.tuple #[refCV C s, .bool true]) ∧ CIn U' w' c dp rg rc C ∧ RefC G' w' C s ∧ Beside U w w' ∧ Grows U w U' w' ∧ Grows G w G' w' ∧ ∀ k, G' k → ¬ U' k
theorem Stepped8.fin {U G X : Nat → Prop} {w V w4 w' : World} {c dp rg rc rb : Nat} {D : Ch.Cache} {s : Shp} (hc : CIn (More U V w4) w4 c dp rg rc D) (hr : RefC X V D s) (hX : ∀ k, X k → (G k ∨ w.heap.size ≤ k) ∧ k < V.heap.size ∧ k ≠ rb) (hU : Held U w) (hGU : ∀ k, G k → ¬ U k) (hwV : Below w.heap.size w V) (hb : Beside U V w4) (hrb : w.heap.size ≤ rb ∧ rb < V.heap.size) (hg : w4.grownBy w' (some rb)) :
    Stepped8 U G w c dp D (.returned (.tuple #[refCV D s, .bool true])) w' := by
  have h1 := hwV.size
  have h2 := hb.size
  have h3 := hg.size
  have hXU : ∀ k, X k → ¬ U k := fun k hk hu => by
    obtain ⟨g1, g2, g3⟩ := hX k hk
    rcases g1 with g1 | g1
    · exact hGU k g1 hu
    · have := hU k hu; omega
  have hrU : ¬ More U V w4 rb := fun h => by
    rcases h with h | h
    · have := hU _ h; omega
    · omega
  refine ⟨More U V w4, X, s, rg, rc, rfl, hc.keep hg hrU, hr.on fun k hk => ?_, ⟨?_, ?_, ?_, by omega, fun k hk hku => ?_⟩, fun k hk => ?_, fun k hk => ?_, fun k hk hku => ?_⟩
  · obtain ⟨g1, g2, g3⟩ := hX k hk
    rw [hg.block k (by omega) (by intro e; exact g3 (Option.some.inj e)), hb.block k g2 (hXU k hk)]
  · rw [hg.os, hb.os, hwV.os]
  · rw [hg.tape, hb.tape, hwV.tape]
  · rw [hg.output, hb.output, hwV.output]
  · rw [hg.block k (by omega) (by intro e; have := Option.some.inj e; omega), hb.block k (by omega) hku, hwV.block k hk]
  · rcases hk with hk | hk
    · have := hU k hk; exact ⟨.inl hk, by omega⟩
    · exact ⟨.inr (by omega), by omega⟩
  · obtain ⟨g1, g2, g3⟩ := hX k hk
    exact ⟨g1, by omega⟩
  · obtain ⟨g1, g2, g3⟩ := hX k hk
    rcases hku with hku | hku
    · exact hXU k hk hku
    · omega
theorem CIn.keepers {U : Nat → Prop} {w W : World} {c dp rg rc : Nat} {C : Ch.Cache} (h : CIn U w c dp rg rc C) (hb : Below w.heap.size w W) : CIn U W c dp rg rc C := h.below hb
theorem refCVbox {C : Ch.Cache} {s : Shp} : refCV C s = .agg (cellsC C s).toArray := rfl

set_option maxRecDepth 100000 in
set_option maxHeartbeats 8000000 in
theorem changes08_pin {U G : Nat → Prop} {w : World} {c dp rg rc n sl : Nat} {C : Ch.Cache} {s : Shp} (hc : CIn U w c dp rg rc C) (hr : RefC G w C s) (hG : Held G w) (hGU : ∀ k, G k → ¬ U k) (hf : Ch.Fit n sl C) (hn : n ≤ 900) (A : Nat → Addr) (hsU : ∀ w1, Beside U w w1 → Sents w1 A) (kind id : Int) (fill : UInt8) (bad : Bool) (hk : kind = 2) {D : Ch.Cache} {kk : Nat} (hD : Ch.pin C id = (D, kk)) :
    Calls Tryz.prog 39 #[.pointer (some ⟨c, 0, none⟩), refCV C s, .agg #[.int .i64 kind, .int .i64 id, .int .u8 (fill.toNat : Int), .bool bad]] w (Stepped8 U G w c dp D) := by
  have HD := Lib.hid hD
  clear hD
  subst hk
  have HC := Lib.hid hc
  have HUU := Lib.hid hc.held
  have HG := Lib.hid hG
  have HGU := Lib.hid hGU
  have HF := Lib.hid hf
  have HS := Lib.hid hsU
  obtain ⟨sa, sc, la, lc, wa, wq, ka, kc⟩ := s
  have H := Lib.hid hr
  unfold refCV
  clear hc hr hG hGU hf hsU
  go_enter Tryz.func39, Tryz.ntmps39
  go_upto_region 1 with fail
  obtain ⟨nb, hnb⟩ : ∃ nb, w.heap.size = nb := ⟨_, rfl⟩
  refine wp_name fun W hW => ?_
  have HH := Lib.hid (show Hav G w nb (nb + 1 + 1) (nb + 1) W C ⟨sa, sc, la, lc, wa, wq, ka, kc⟩ G from Hav.open_ H.out HG.out (by omega) (by rw [hW]; simp [hnb]) (by omega) (by rw [hW]; exact ((BoxAt.newAt _ _ hnb [_, _, _, _, _, _, _, _, _, _, _, _, _] _).alloc _).alloc _) (by rw [hW]; exact BoxAt.newAt _ _ (by simp [hnb]) [_, _, _, _, _, _, _, _, _, _, _, _, _] _) (by rw [hW]; go_grown))
  have HACT := Lib.hid (show BoxAt W (nb + 1) [.int .i64 2, .int .i64 id, .int .u8 (fill.toNat : Int), .bool bad] by rw [hW]; exact (BoxAt.newAt _ _ (by simp [hnb]) [_, _, _, _] _).alloc _)
  have HNB := Lib.hid hnb
  clear hW
  rw [hnb]
  clear hnb
  have HCW := Lib.hid (HC.out.below HH.out.below)
  obtain ⟨x0, x1, x2, x3, x4, x5, x6, x7, x8, x9, x10, x11, x12⟩ := HH.out.x
  obtain ⟨r0, r1, r2, r3⟩ := HACT.out.four
  have HPin := Lib.hid (show Calls Tryz.prog 66 #[.agg #[.slice sa C.slots.length sc, .int .i64 (C.hand : Int), .int .i64 (C.disk.blocks : Int), .int .i64 (C.disk.size : Int), .slice la C.disk.lasting.length lc, .slice wa C.disk.waiting.length wq, .bool C.disk.lit, .int .i64 C.disk.after, .int .i64 C.disk.torn, .int .i64 C.disk.cut, .slice ka C.disk.keep.length kc, .bool C.disk.off, .int .i64 C.disk.count], .int .i64 id] W (GivesCK G W D kk) from by
    have hh := refCpin_is HH.out.ref HH.out.held HF.out.ok (by omega) id HD.out
    unfold refCV at hh
    exact hh)
  go_upto_region 4 with (go_at_call 66; (refine HPin.out.mono ?_); (rintro e w2 ⟨⟨⟨sa2, sc2, la2, lc2, wa2, wq2, ka2, kc2⟩, rfl, h2⟩, hb2⟩); (have H2 := Lib.hid h2); (have HB2 := Lib.hid hb2); (clear h2 hb2); (unfold refCV))
  obtain ⟨xb, hxb⟩ : ∃ xb, w2.heap.size = xb := ⟨_, rfl⟩
  refine wp_name fun V hV => ?_
  have hbV : Below w2.heap.size w2 V := by rw [hV]; exact (Below.refl _ _).alloc (Nat.le_refl _) _
  have HXB := Lib.hid (show BoxAt V xb [.slice sa2 D.slots.length sc2, .int .i64 (D.hand : Int), .int .i64 (D.disk.blocks : Int), .int .i64 (D.disk.size : Int), .slice la2 D.disk.lasting.length lc2, .slice wa2 D.disk.waiting.length wq2, .bool D.disk.lit, .int .i64 D.disk.after, .int .i64 D.disk.torn, .int .i64 D.disk.cut, .slice ka2 D.disk.keep.length kc2, .bool D.disk.off, .int .i64 D.disk.count] by rw [hV]; exact BoxAt.newAt _ _ hxb [_, _, _, _, _, _, _, _, _, _, _, _, _] _)
  have HBWV := Lib.hid (below_step HB2.out hbV)
  have HMORE := Lib.hid (HH.out.more HB2.out)
  have H2V := Lib.hid (H2.out.on (w' := V) fun k hk => hbV.block k (HMORE.out k hk).2.1)
  have hxbl : w2.heap.size ≤ xb := Nat.le_of_eq hxb
  have hsV := hbV.size
  have hs2 := HB2.out.size
  have hl0 := HH.out.lt
  have hw0 := HNB.out
  clear hV hbV HPin x0 x1 x2 x3 x4 x5 x6 x7 x8 x9 x10 x11 x12 r0 r1 r2 r3
  rw [hxb]
  clear hxb
  have HHV := Lib.hid (HH.out.later HBWV.out)
  have HAV := Lib.hid (HACT.out.below HBWV.out)
  have HCV := Lib.hid (HCW.out.below HBWV.out)
  have hUlt : ∀ q, w.heap.size ≤ q → ¬ U q := fun q hq h => by have := HUU.out q h; omega
  have HUL := Lib.hid hUlt
  obtain ⟨x0, x1, x2, x3, x4, x5, x6, x7, x8, x9, x10, x11, x12⟩ := HXB.out.thirteen
  have c0 := Far.dcell8 (w := V) (F := U) x0 (hUlt xb (by omega))
  have c1 := Far.dcell8 (w := V) (F := U) x1 (hUlt xb (by omega))
  have c2 := Far.dcell8 (w := V) (F := U) x2 (hUlt xb (by omega))
  have c3 := Far.dcell8 (w := V) (F := U) x3 (hUlt xb (by omega))
  have c4 := Far.dcell8 (w := V) (F := U) x4 (hUlt xb (by omega))
  have c5 := Far.dcell8 (w := V) (F := U) x5 (hUlt xb (by omega))
  have c6 := Far.dcell8 (w := V) (F := U) x6 (hUlt xb (by omega))
  have c7 := Far.dcell8 (w := V) (F := U) x7 (hUlt xb (by omega))
  have c8 := Far.dcell8 (w := V) (F := U) x8 (hUlt xb (by omega))
  have c9 := Far.dcell8 (w := V) (F := U) x9 (hUlt xb (by omega))
  have c10 := Far.dcell8 (w := V) (F := U) x10 (hUlt xb (by omega))
  have c11 := Far.dcell8 (w := V) (F := U) x11 (hUlt xb (by omega))
  have c12 := Far.dcell8 (w := V) (F := U) x12 (hUlt xb (by omega))
  obtain ⟨r0, r1, r2, r3⟩ := HAV.out.four
  have d1 := Far.dcell8 (w := V) (F := U) r1 (hUlt (nb + 1) (by omega))
  refine wp_region_mix (fun w' => ∃ x : Far V.drew U, w' = x.world) [7] 9 (by kernel_rfl) rfl ?_
  refine mix_reads_lit [0, 1, 2, 3, 5] 4 (by kernel_rfl) (by kernel_rfl) (by kernel_rfl) (by kernel_rfl) rfl (FarC.of (Beside.refl _ _)) ?_
  simp only [pick, List.filterMap_cons, List.filterMap_nil, List.getElem?_cons_succ, List.getElem?_cons_zero]
  repeat (first | go_big_quiet_step (fail) | quiet_step (fail))
  refine wpQuiet_nil ?_
  clear c0 c1 c2 c3 c4 c5 c6 c7 c8 c9 c10 c11 c12 x0 x1 x2 x3 x4 x5 x6 x7 x8 x9 x10 x11 x12 r0 r1 r2 r3 d1 hUlt
  have hmeet : ∀ wx, Beside U V.drew wx → Sents wx A := fun wx hx => HS.out wx ((Beside.of_below HHV.out.below).same ⟨hx.os, hx.tape, hx.output, hx.size, hx.block⟩)
  refine mix_deed_lit 4 3 (by kernel_rfl) (by kernel_rfl) rfl (fun K hK => ?_)
  simp only [comesUp, List.getElem?_cons_succ, List.getElem?_cons_zero]
  refine if_mk rfl ?_
  go_simp
  refine ((cpin_is (HCV.out.below (Below.refl _ _).drew) HF.out.ok (by omega) id HD.out A hmeet)).mono ?_
  rintro e w4 ⟨l4, v4, rfl, hE4, hC4, hB4⟩
  refine hK _ _ (fun _ _ => FarC.of hB4) ?_
  clear hK K
  have hB4' : Beside U V w4 := ⟨hB4.os, hB4.tape, hB4.output, hB4.size, hB4.block⟩
  have HC4 := Lib.hid (show CIn (More U V w4) w4 c dp rg rc D from hC4)
  have HB4 := Lib.hid hB4'
  have HE4 := Lib.hid hE4
  have HS4 := Lib.hid (hmeet w4 hB4)
  clear hE4 hC4 hB4 hB4' hmeet
  refine mix_deed_lit 6 2 (by kernel_rfl) (by kernel_rfl) rfl (fun K hK => ?_)
  simp only [comesUp, List.getElem?_cons_succ, List.getElem?_cons_zero]
  refine if_mk rfl ?_
  go_simp
  refine (tells08_any (w := w4) HS4.out l4 kk _ HE4.out _ rfl).mono ?_
  rintro e w5 ⟨rfl, rfl⟩
  refine hK _ _ (fun _ h => h) ?_
  clear hK K
  have HZ4 := Lib.hid (HHV.out.res.beside HB4.out (HUL.out _ (by omega)))
  obtain ⟨y0, y1, y2, y3, y4, y5, y6, y7, y8, y9, y10, y11, y12⟩ := HZ4.out.thirteen
  obtain ⟨f0, f1, f2, f3, f4, f5, f6, f7, f8, f9, f10, f11, f12⟩ := HZ4.out.thirteenF
  refine mix_deed_lit 7 1 (by kernel_rfl) (by kernel_rfl) rfl (fun K hK => ?_)
  simp only [comesUp, List.getElem?_cons_succ, List.getElem?_cons_zero]
  refine if_mk rfl ?_
  go_simp
  refine hK _ _ (fun h => by simp [keeps] at h) ?_
  clear hK K y0 y1 y2 y3 y4 y5 y6 y7 y8 y9 y10 y11 y12 f0 f1 f2 f3 f4 f5 f6 f7 f8 f9 f10 f11 f12
  obtain ⟨Z0, hZ0, hf, hgz⟩ := HZ4.out.fill13s (.slice sa2 D.slots.length sc2) (.int .i64 (D.hand : Int)) (.int .i64 (D.disk.blocks : Int)) (.int .i64 (D.disk.size : Int)) (.slice la2 D.disk.lasting.length lc2) (.slice wa2 D.disk.waiting.length wq2) (.bool D.disk.lit) (.int .i64 D.disk.after) (.int .i64 D.disk.torn) (.int .i64 D.disk.cut) (.slice ka2 D.disk.keep.length kc2) (.bool D.disk.off) (.int .i64 D.disk.count)
  rw [← hZ0]
  clear hZ0
  refine mix_flat_lit [8] 0 (by kernel_rfl) (by kernel_rfl) (by kernel_rfl) (by kernel_rfl) rfl ?_
  simp only [pick, List.filterMap_cons, List.filterMap_nil, List.getElem?_cons_succ, List.getElem?_cons_zero]
  repeat (first | go_big_quiet_step (fail) | quiet_step (fail))
  refine wpQuiet_nil ?_
  refine mix_done_lit (by kernel_rfl) ?_
  have HGZ := Lib.hid hgz
  obtain ⟨z0, z1, z2, z3, z4, z5, z6, z7, z8, z9, z10, z11, z12⟩ := hf.thirteen
  clear hf hgz
  go_wp2_with fail
  refine bodyPost_ret (v := .tuple #[refCV D ⟨sa2, sc2, la2, lc2, wa2, wq2, ka2, kc2⟩, .bool true]) (by simp [results, Tryz.results39, go_sem, refCV, z0, z1, z2, z3, z4, z5, z6, z7, z8, z9, z10, z11, z12]) rfl ?_
  exact Stepped8.fin HC4.out H2V.out (fun k hk => by have := HMORE.out k hk; exact ⟨this.1, by omega, this.2.2.2.1⟩) HUU.out HGU.out HHV.out.below HB4.out ⟨by omega, by omega⟩ HGZ.out

set_option maxRecDepth 100000 in
set_option maxHeartbeats 8000000 in
theorem changes08_unpin {U G : Nat → Prop} {w : World} {c dp rg rc n sl : Nat} {C : Ch.Cache} {s : Shp} (hc : CIn U w c dp rg rc C) (hr : RefC G w C s) (hG : Held G w) (hGU : ∀ k, G k → ¬ U k) (hf : Ch.Fit n sl C) (hn : n ≤ 900) (A : Nat → Addr) (hsU : ∀ w1, Beside U w w1 → Sents w1 A) (kind id : Int) (fill : UInt8) (bad : Bool) (hk : kind = 3) {D : Ch.Cache} {kk : Nat} (hD : Ch.unpin C id = (D, kk)) :
    Calls Tryz.prog 39 #[.pointer (some ⟨c, 0, none⟩), refCV C s, .agg #[.int .i64 kind, .int .i64 id, .int .u8 (fill.toNat : Int), .bool bad]] w (Stepped8 U G w c dp D) := by
  have HD := Lib.hid hD
  clear hD
  subst hk
  have HC := Lib.hid hc
  have HUU := Lib.hid hc.held
  have HG := Lib.hid hG
  have HGU := Lib.hid hGU
  have HF := Lib.hid hf
  have HS := Lib.hid hsU
  obtain ⟨sa, sc, la, lc, wa, wq, ka, kc⟩ := s
  have H := Lib.hid hr
  unfold refCV
  clear hc hr hG hGU hf hsU
  go_enter Tryz.func39, Tryz.ntmps39
  go_upto_region 1 with fail
  obtain ⟨nb, hnb⟩ : ∃ nb, w.heap.size = nb := ⟨_, rfl⟩
  refine wp_name fun W hW => ?_
  have HH := Lib.hid (show Hav G w nb (nb + 1 + 1) (nb + 1) W C ⟨sa, sc, la, lc, wa, wq, ka, kc⟩ G from Hav.open_ H.out HG.out (by omega) (by rw [hW]; simp [hnb]) (by omega) (by rw [hW]; exact ((BoxAt.newAt _ _ hnb [_, _, _, _, _, _, _, _, _, _, _, _, _] _).alloc _).alloc _) (by rw [hW]; exact BoxAt.newAt _ _ (by simp [hnb]) [_, _, _, _, _, _, _, _, _, _, _, _, _] _) (by rw [hW]; go_grown))
  have HACT := Lib.hid (show BoxAt W (nb + 1) [.int .i64 3, .int .i64 id, .int .u8 (fill.toNat : Int), .bool bad] by rw [hW]; exact (BoxAt.newAt _ _ (by simp [hnb]) [_, _, _, _] _).alloc _)
  have HNB := Lib.hid hnb
  clear hW
  rw [hnb]
  clear hnb
  have HCW := Lib.hid (HC.out.below HH.out.below)
  obtain ⟨x0, x1, x2, x3, x4, x5, x6, x7, x8, x9, x10, x11, x12⟩ := HH.out.x
  obtain ⟨r0, r1, r2, r3⟩ := HACT.out.four
  have HUnpin := Lib.hid (show Calls Tryz.prog 68 #[.agg #[.slice sa C.slots.length sc, .int .i64 (C.hand : Int), .int .i64 (C.disk.blocks : Int), .int .i64 (C.disk.size : Int), .slice la C.disk.lasting.length lc, .slice wa C.disk.waiting.length wq, .bool C.disk.lit, .int .i64 C.disk.after, .int .i64 C.disk.torn, .int .i64 C.disk.cut, .slice ka C.disk.keep.length kc, .bool C.disk.off, .int .i64 C.disk.count], .int .i64 id] W (GivesCK G W D kk) from by
    have hh := refCunpin_is HH.out.ref HH.out.held HF.out.ok id HD.out
    unfold refCV at hh
    exact hh)
  go_upto_region 7 with (go_at_call 68; (refine HUnpin.out.mono ?_); (rintro e w2 ⟨⟨⟨sa2, sc2, la2, lc2, wa2, wq2, ka2, kc2⟩, rfl, h2⟩, hb2⟩); (have H2 := Lib.hid h2); (have HB2 := Lib.hid hb2); (clear h2 hb2); (unfold refCV))
  obtain ⟨xb, hxb⟩ : ∃ xb, w2.heap.size = xb := ⟨_, rfl⟩
  refine wp_name fun V hV => ?_
  have hbV : Below w2.heap.size w2 V := by rw [hV]; exact (Below.refl _ _).alloc (Nat.le_refl _) _
  have HXB := Lib.hid (show BoxAt V xb [.slice sa2 D.slots.length sc2, .int .i64 (D.hand : Int), .int .i64 (D.disk.blocks : Int), .int .i64 (D.disk.size : Int), .slice la2 D.disk.lasting.length lc2, .slice wa2 D.disk.waiting.length wq2, .bool D.disk.lit, .int .i64 D.disk.after, .int .i64 D.disk.torn, .int .i64 D.disk.cut, .slice ka2 D.disk.keep.length kc2, .bool D.disk.off, .int .i64 D.disk.count] by rw [hV]; exact BoxAt.newAt _ _ hxb [_, _, _, _, _, _, _, _, _, _, _, _, _] _)
  have HBWV := Lib.hid (below_step HB2.out hbV)
  have HMORE := Lib.hid (HH.out.more HB2.out)
  have H2V := Lib.hid (H2.out.on (w' := V) fun k hk => hbV.block k (HMORE.out k hk).2.1)
  have hxbl : w2.heap.size ≤ xb := Nat.le_of_eq hxb
  have hsV := hbV.size
  have hs2 := HB2.out.size
  have hl0 := HH.out.lt
  have hw0 := HNB.out
  clear hV hbV HUnpin x0 x1 x2 x3 x4 x5 x6 x7 x8 x9 x10 x11 x12 r0 r1 r2 r3
  rw [hxb]
  clear hxb
  have HHV := Lib.hid (HH.out.later HBWV.out)
  have HAV := Lib.hid (HACT.out.below HBWV.out)
  have HCV := Lib.hid (HCW.out.below HBWV.out)
  have hUlt : ∀ q, w.heap.size ≤ q → ¬ U q := fun q hq h => by have := HUU.out q h; omega
  have HUL := Lib.hid hUlt
  obtain ⟨x0, x1, x2, x3, x4, x5, x6, x7, x8, x9, x10, x11, x12⟩ := HXB.out.thirteen
  have c0 := Far.dcell8 (w := V) (F := U) x0 (hUlt xb (by omega))
  have c1 := Far.dcell8 (w := V) (F := U) x1 (hUlt xb (by omega))
  have c2 := Far.dcell8 (w := V) (F := U) x2 (hUlt xb (by omega))
  have c3 := Far.dcell8 (w := V) (F := U) x3 (hUlt xb (by omega))
  have c4 := Far.dcell8 (w := V) (F := U) x4 (hUlt xb (by omega))
  have c5 := Far.dcell8 (w := V) (F := U) x5 (hUlt xb (by omega))
  have c6 := Far.dcell8 (w := V) (F := U) x6 (hUlt xb (by omega))
  have c7 := Far.dcell8 (w := V) (F := U) x7 (hUlt xb (by omega))
  have c8 := Far.dcell8 (w := V) (F := U) x8 (hUlt xb (by omega))
  have c9 := Far.dcell8 (w := V) (F := U) x9 (hUlt xb (by omega))
  have c10 := Far.dcell8 (w := V) (F := U) x10 (hUlt xb (by omega))
  have c11 := Far.dcell8 (w := V) (F := U) x11 (hUlt xb (by omega))
  have c12 := Far.dcell8 (w := V) (F := U) x12 (hUlt xb (by omega))
  obtain ⟨r0, r1, r2, r3⟩ := HAV.out.four
  have d1 := Far.dcell8 (w := V) (F := U) r1 (hUlt (nb + 1) (by omega))
  refine wp_region_mix (fun w' => ∃ x : Far V.drew U, w' = x.world) [7] 9 (by kernel_rfl) rfl ?_
  refine mix_reads_lit [0, 1, 2, 3, 5] 4 (by kernel_rfl) (by kernel_rfl) (by kernel_rfl) (by kernel_rfl) rfl (FarC.of (Beside.refl _ _)) ?_
  simp only [pick, List.filterMap_cons, List.filterMap_nil, List.getElem?_cons_succ, List.getElem?_cons_zero]
  repeat (first | go_big_quiet_step (fail) | quiet_step (fail))
  refine wpQuiet_nil ?_
  clear c0 c1 c2 c3 c4 c5 c6 c7 c8 c9 c10 c11 c12 x0 x1 x2 x3 x4 x5 x6 x7 x8 x9 x10 x11 x12 r0 r1 r2 r3 d1 hUlt
  have hmeet : ∀ wx, Beside U V.drew wx → Sents wx A := fun wx hx => HS.out wx ((Beside.of_below HHV.out.below).same ⟨hx.os, hx.tape, hx.output, hx.size, hx.block⟩)
  refine mix_deed_lit 4 3 (by kernel_rfl) (by kernel_rfl) rfl (fun K hK => ?_)
  simp only [comesUp, List.getElem?_cons_succ, List.getElem?_cons_zero]
  refine if_mk rfl ?_
  go_simp
  refine ((cunpin_is (HCV.out.below (Below.refl _ _).drew) HF.out.ok id HD.out A hmeet)).mono ?_
  rintro e w4 ⟨l4, v4, rfl, hE4, hC4, hB4⟩
  refine hK _ _ (fun _ _ => FarC.of hB4) ?_
  clear hK K
  have hB4' : Beside U V w4 := ⟨hB4.os, hB4.tape, hB4.output, hB4.size, hB4.block⟩
  have HC4 := Lib.hid (show CIn (More U V w4) w4 c dp rg rc D from hC4)
  have HB4 := Lib.hid hB4'
  have HE4 := Lib.hid hE4
  have HS4 := Lib.hid (hmeet w4 hB4)
  clear hE4 hC4 hB4 hB4' hmeet
  refine mix_deed_lit 6 2 (by kernel_rfl) (by kernel_rfl) rfl (fun K hK => ?_)
  simp only [comesUp, List.getElem?_cons_succ, List.getElem?_cons_zero]
  refine if_mk rfl ?_
  go_simp
  refine (tells08_any (w := w4) HS4.out l4 kk _ HE4.out _ rfl).mono ?_
  rintro e w5 ⟨rfl, rfl⟩
  refine hK _ _ (fun _ h => h) ?_
  clear hK K
  have HZ4 := Lib.hid (HHV.out.res.beside HB4.out (HUL.out _ (by omega)))
  obtain ⟨y0, y1, y2, y3, y4, y5, y6, y7, y8, y9, y10, y11, y12⟩ := HZ4.out.thirteen
  obtain ⟨f0, f1, f2, f3, f4, f5, f6, f7, f8, f9, f10, f11, f12⟩ := HZ4.out.thirteenF
  refine mix_deed_lit 7 1 (by kernel_rfl) (by kernel_rfl) rfl (fun K hK => ?_)
  simp only [comesUp, List.getElem?_cons_succ, List.getElem?_cons_zero]
  refine if_mk rfl ?_
  go_simp
  refine hK _ _ (fun h => by simp [keeps] at h) ?_
  clear hK K y0 y1 y2 y3 y4 y5 y6 y7 y8 y9 y10 y11 y12 f0 f1 f2 f3 f4 f5 f6 f7 f8 f9 f10 f11 f12
  obtain ⟨Z0, hZ0, hf, hgz⟩ := HZ4.out.fill13s (.slice sa2 D.slots.length sc2) (.int .i64 (D.hand : Int)) (.int .i64 (D.disk.blocks : Int)) (.int .i64 (D.disk.size : Int)) (.slice la2 D.disk.lasting.length lc2) (.slice wa2 D.disk.waiting.length wq2) (.bool D.disk.lit) (.int .i64 D.disk.after) (.int .i64 D.disk.torn) (.int .i64 D.disk.cut) (.slice ka2 D.disk.keep.length kc2) (.bool D.disk.off) (.int .i64 D.disk.count)
  rw [← hZ0]
  clear hZ0
  refine mix_flat_lit [8] 0 (by kernel_rfl) (by kernel_rfl) (by kernel_rfl) (by kernel_rfl) rfl ?_
  simp only [pick, List.filterMap_cons, List.filterMap_nil, List.getElem?_cons_succ, List.getElem?_cons_zero]
  repeat (first | go_big_quiet_step (fail) | quiet_step (fail))
  refine wpQuiet_nil ?_
  refine mix_done_lit (by kernel_rfl) ?_
  have HGZ := Lib.hid hgz
  obtain ⟨z0, z1, z2, z3, z4, z5, z6, z7, z8, z9, z10, z11, z12⟩ := hf.thirteen
  clear hf hgz
  go_wp2_with fail
  refine bodyPost_ret (v := .tuple #[refCV D ⟨sa2, sc2, la2, lc2, wa2, wq2, ka2, kc2⟩, .bool true]) (by simp [results, Tryz.results39, go_sem, refCV, z0, z1, z2, z3, z4, z5, z6, z7, z8, z9, z10, z11, z12]) rfl ?_
  exact Stepped8.fin HC4.out H2V.out (fun k hk => by have := HMORE.out k hk; exact ⟨this.1, by omega, this.2.2.2.1⟩) HUU.out HGU.out HHV.out.below HB4.out ⟨by omega, by omega⟩ HGZ.out

set_option maxRecDepth 100000 in
set_option maxHeartbeats 8000000 in
theorem changes08_flush {U G : Nat → Prop} {w : World} {c dp rg rc n sl : Nat} {C : Ch.Cache} {s : Shp} (hc : CIn U w c dp rg rc C) (hr : RefC G w C s) (hG : Held G w) (hGU : ∀ k, G k → ¬ U k) (hf : Ch.Fit n sl C) (hn : n ≤ 900) (A : Nat → Addr) (hsU : ∀ w1, Beside U w w1 → Sents w1 A) (kind id : Int) (fill : UInt8) (bad : Bool) (hk : kind = 4) {D : Ch.Cache} {kk : Nat} (hD : Ch.flush C = (D, kk)) :
    Calls Tryz.prog 39 #[.pointer (some ⟨c, 0, none⟩), refCV C s, .agg #[.int .i64 kind, .int .i64 id, .int .u8 (fill.toNat : Int), .bool bad]] w (Stepped8 U G w c dp D) := by
  have HD := Lib.hid hD
  clear hD
  subst hk
  have HC := Lib.hid hc
  have HUU := Lib.hid hc.held
  have HG := Lib.hid hG
  have HGU := Lib.hid hGU
  have HF := Lib.hid hf
  have HS := Lib.hid hsU
  obtain ⟨sa, sc, la, lc, wa, wq, ka, kc⟩ := s
  have H := Lib.hid hr
  unfold refCV
  clear hc hr hG hGU hf hsU
  go_enter Tryz.func39, Tryz.ntmps39
  go_upto_region 1 with fail
  obtain ⟨nb, hnb⟩ : ∃ nb, w.heap.size = nb := ⟨_, rfl⟩
  refine wp_name fun W hW => ?_
  have HH := Lib.hid (show Hav G w nb (nb + 1 + 1) (nb + 1) W C ⟨sa, sc, la, lc, wa, wq, ka, kc⟩ G from Hav.open_ H.out HG.out (by omega) (by rw [hW]; simp [hnb]) (by omega) (by rw [hW]; exact ((BoxAt.newAt _ _ hnb [_, _, _, _, _, _, _, _, _, _, _, _, _] _).alloc _).alloc _) (by rw [hW]; exact BoxAt.newAt _ _ (by simp [hnb]) [_, _, _, _, _, _, _, _, _, _, _, _, _] _) (by rw [hW]; go_grown))
  have HACT := Lib.hid (show BoxAt W (nb + 1) [.int .i64 4, .int .i64 id, .int .u8 (fill.toNat : Int), .bool bad] by rw [hW]; exact (BoxAt.newAt _ _ (by simp [hnb]) [_, _, _, _] _).alloc _)
  have HNB := Lib.hid hnb
  clear hW
  rw [hnb]
  clear hnb
  have HCW := Lib.hid (HC.out.below HH.out.below)
  obtain ⟨x0, x1, x2, x3, x4, x5, x6, x7, x8, x9, x10, x11, x12⟩ := HH.out.x
  obtain ⟨r0, r1, r2, r3⟩ := HACT.out.four
  have HFlush := Lib.hid (show Calls Tryz.prog 12 #[.agg #[.slice sa C.slots.length sc, .int .i64 (C.hand : Int), .int .i64 (C.disk.blocks : Int), .int .i64 (C.disk.size : Int), .slice la C.disk.lasting.length lc, .slice wa C.disk.waiting.length wq, .bool C.disk.lit, .int .i64 C.disk.after, .int .i64 C.disk.torn, .int .i64 C.disk.cut, .slice ka C.disk.keep.length kc, .bool C.disk.off, .int .i64 C.disk.count]] W (GivesCK G W D kk) from by
    have hh := refCflush_is HH.out.ref HH.out.held HF.out.ok hn HD.out
    unfold refCV at hh
    exact hh)
  go_upto_region 10 with (go_at_call 12; (refine HFlush.out.mono ?_); (rintro e w2 ⟨⟨⟨sa2, sc2, la2, lc2, wa2, wq2, ka2, kc2⟩, rfl, h2⟩, hb2⟩); (have H2 := Lib.hid h2); (have HB2 := Lib.hid hb2); (clear h2 hb2); (unfold refCV))
  obtain ⟨xb, hxb⟩ : ∃ xb, w2.heap.size = xb := ⟨_, rfl⟩
  refine wp_name fun V hV => ?_
  have hbV : Below w2.heap.size w2 V := by rw [hV]; exact (Below.refl _ _).alloc (Nat.le_refl _) _
  have HXB := Lib.hid (show BoxAt V xb [.slice sa2 D.slots.length sc2, .int .i64 (D.hand : Int), .int .i64 (D.disk.blocks : Int), .int .i64 (D.disk.size : Int), .slice la2 D.disk.lasting.length lc2, .slice wa2 D.disk.waiting.length wq2, .bool D.disk.lit, .int .i64 D.disk.after, .int .i64 D.disk.torn, .int .i64 D.disk.cut, .slice ka2 D.disk.keep.length kc2, .bool D.disk.off, .int .i64 D.disk.count] by rw [hV]; exact BoxAt.newAt _ _ hxb [_, _, _, _, _, _, _, _, _, _, _, _, _] _)
  have HBWV := Lib.hid (below_step HB2.out hbV)
  have HMORE := Lib.hid (HH.out.more HB2.out)
  have H2V := Lib.hid (H2.out.on (w' := V) fun k hk => hbV.block k (HMORE.out k hk).2.1)
  have hxbl : w2.heap.size ≤ xb := Nat.le_of_eq hxb
  have hsV := hbV.size
  have hs2 := HB2.out.size
  have hl0 := HH.out.lt
  have hw0 := HNB.out
  clear hV hbV HFlush x0 x1 x2 x3 x4 x5 x6 x7 x8 x9 x10 x11 x12 r0 r1 r2 r3
  rw [hxb]
  clear hxb
  have HHV := Lib.hid (HH.out.later HBWV.out)
  have HAV := Lib.hid (HACT.out.below HBWV.out)
  have HCV := Lib.hid (HCW.out.below HBWV.out)
  have hUlt : ∀ q, w.heap.size ≤ q → ¬ U q := fun q hq h => by have := HUU.out q h; omega
  have HUL := Lib.hid hUlt
  obtain ⟨x0, x1, x2, x3, x4, x5, x6, x7, x8, x9, x10, x11, x12⟩ := HXB.out.thirteen
  have c0 := Far.dcell8 (w := V) (F := U) x0 (hUlt xb (by omega))
  have c1 := Far.dcell8 (w := V) (F := U) x1 (hUlt xb (by omega))
  have c2 := Far.dcell8 (w := V) (F := U) x2 (hUlt xb (by omega))
  have c3 := Far.dcell8 (w := V) (F := U) x3 (hUlt xb (by omega))
  have c4 := Far.dcell8 (w := V) (F := U) x4 (hUlt xb (by omega))
  have c5 := Far.dcell8 (w := V) (F := U) x5 (hUlt xb (by omega))
  have c6 := Far.dcell8 (w := V) (F := U) x6 (hUlt xb (by omega))
  have c7 := Far.dcell8 (w := V) (F := U) x7 (hUlt xb (by omega))
  have c8 := Far.dcell8 (w := V) (F := U) x8 (hUlt xb (by omega))
  have c9 := Far.dcell8 (w := V) (F := U) x9 (hUlt xb (by omega))
  have c10 := Far.dcell8 (w := V) (F := U) x10 (hUlt xb (by omega))
  have c11 := Far.dcell8 (w := V) (F := U) x11 (hUlt xb (by omega))
  have c12 := Far.dcell8 (w := V) (F := U) x12 (hUlt xb (by omega))
  refine wp_region_mix (fun w' => ∃ x : Far V.drew U, w' = x.world) [5] 7 (by kernel_rfl) rfl ?_
  refine mix_reads_lit [0, 1, 3] 4 (by kernel_rfl) (by kernel_rfl) (by kernel_rfl) (by kernel_rfl) rfl (FarC.of (Beside.refl _ _)) ?_
  simp only [pick, List.filterMap_cons, List.filterMap_nil, List.getElem?_cons_succ, List.getElem?_cons_zero]
  repeat (first | go_big_quiet_step (fail) | quiet_step (fail))
  refine wpQuiet_nil ?_
  clear c0 c1 c2 c3 c4 c5 c6 c7 c8 c9 c10 c11 c12 x0 x1 x2 x3 x4 x5 x6 x7 x8 x9 x10 x11 x12  hUlt
  have hmeet : ∀ wx, Beside U V.drew wx → Sents wx A := fun wx hx => HS.out wx ((Beside.of_below HHV.out.below).same ⟨hx.os, hx.tape, hx.output, hx.size, hx.block⟩)
  refine mix_deed_lit 2 3 (by kernel_rfl) (by kernel_rfl) rfl (fun K hK => ?_)
  simp only [comesUp, List.getElem?_cons_succ, List.getElem?_cons_zero]
  refine if_mk rfl ?_
  go_simp
  refine ((cflush_is (HCV.out.below (Below.refl _ _).drew) HF.out.ok (by omega) HD.out A hmeet)).mono ?_
  rintro e w4 ⟨l4, v4, rfl, hE4, hC4, hB4⟩
  refine hK _ _ (fun _ _ => FarC.of hB4) ?_
  clear hK K
  have hB4' : Beside U V w4 := ⟨hB4.os, hB4.tape, hB4.output, hB4.size, hB4.block⟩
  have HC4 := Lib.hid (show CIn (More U V w4) w4 c dp rg rc D from hC4)
  have HB4 := Lib.hid hB4'
  have HE4 := Lib.hid hE4
  have HS4 := Lib.hid (hmeet w4 hB4)
  clear hE4 hC4 hB4 hB4' hmeet
  refine mix_deed_lit 4 2 (by kernel_rfl) (by kernel_rfl) rfl (fun K hK => ?_)
  simp only [comesUp, List.getElem?_cons_succ, List.getElem?_cons_zero]
  refine if_mk rfl ?_
  go_simp
  refine (tells08_any (w := w4) HS4.out l4 kk _ HE4.out _ rfl).mono ?_
  rintro e w5 ⟨rfl, rfl⟩
  refine hK _ _ (fun _ h => h) ?_
  clear hK K
  have HZ4 := Lib.hid (HHV.out.res.beside HB4.out (HUL.out _ (by omega)))
  obtain ⟨y0, y1, y2, y3, y4, y5, y6, y7, y8, y9, y10, y11, y12⟩ := HZ4.out.thirteen
  obtain ⟨f0, f1, f2, f3, f4, f5, f6, f7, f8, f9, f10, f11, f12⟩ := HZ4.out.thirteenF
  refine mix_deed_lit 5 1 (by kernel_rfl) (by kernel_rfl) rfl (fun K hK => ?_)
  simp only [comesUp, List.getElem?_cons_succ, List.getElem?_cons_zero]
  refine if_mk rfl ?_
  go_simp
  refine hK _ _ (fun h => by simp [keeps] at h) ?_
  clear hK K y0 y1 y2 y3 y4 y5 y6 y7 y8 y9 y10 y11 y12 f0 f1 f2 f3 f4 f5 f6 f7 f8 f9 f10 f11 f12
  obtain ⟨Z0, hZ0, hf, hgz⟩ := HZ4.out.fill13s (.slice sa2 D.slots.length sc2) (.int .i64 (D.hand : Int)) (.int .i64 (D.disk.blocks : Int)) (.int .i64 (D.disk.size : Int)) (.slice la2 D.disk.lasting.length lc2) (.slice wa2 D.disk.waiting.length wq2) (.bool D.disk.lit) (.int .i64 D.disk.after) (.int .i64 D.disk.torn) (.int .i64 D.disk.cut) (.slice ka2 D.disk.keep.length kc2) (.bool D.disk.off) (.int .i64 D.disk.count)
  rw [← hZ0]
  clear hZ0
  refine mix_flat_lit [6] 0 (by kernel_rfl) (by kernel_rfl) (by kernel_rfl) (by kernel_rfl) rfl ?_
  simp only [pick, List.filterMap_cons, List.filterMap_nil, List.getElem?_cons_succ, List.getElem?_cons_zero]
  repeat (first | go_big_quiet_step (fail) | quiet_step (fail))
  refine wpQuiet_nil ?_
  refine mix_done_lit (by kernel_rfl) ?_
  have HGZ := Lib.hid hgz
  obtain ⟨z0, z1, z2, z3, z4, z5, z6, z7, z8, z9, z10, z11, z12⟩ := hf.thirteen
  clear hf hgz
  go_wp2_with fail
  refine bodyPost_ret (v := .tuple #[refCV D ⟨sa2, sc2, la2, lc2, wa2, wq2, ka2, kc2⟩, .bool true]) (by simp [results, Tryz.results39, go_sem, refCV, z0, z1, z2, z3, z4, z5, z6, z7, z8, z9, z10, z11, z12]) rfl ?_
  exact Stepped8.fin HC4.out H2V.out (fun k hk => by have := HMORE.out k hk; exact ⟨this.1, by omega, this.2.2.2.1⟩) HUU.out HGU.out HHV.out.below HB4.out ⟨by omega, by omega⟩ HGZ.out
end Go.Proofs.YtflbioiildndoaaGreatDoor

