/- the statements of caches: step: Put (printed by wip/tools/rc/mk_put.py and gen_refc.py) -/
import Derived.Test.YtflbioiildndoaaGreatDoorCacheB3
import Derived.Test.YtflbioiildndoaaGreatDoorRefC11
namespace Go.Proofs.YtflbioiildndoaaGreatDoor
open Go.RowKit
set_option linter.unusedVariables false
set_option linter.unusedSimpArgs false

theorem byte0 {w : World} {g : Nat} {f : UInt8} (h : BytesAt w (.slice (some ⟨g, 0, none⟩) 1 1) [f]) : w.cell? ⟨g, 0, none⟩ = some (.int .u8 (f.toNat : Int)) := by
  obtain ⟨a, c, hv, -, -, h3⟩ := h
  rcases h3 with h3 | ⟨b, o, rfl, h3⟩
  · cases h3
  · simp only [Value.slice.injEq, Option.some.injEq, Addr.mk.injEq] at hv
    obtain ⟨⟨rfl, rfl, -⟩, -, -⟩ := hv
    exact h3 0 f rfl
theorem pageOf_good (id : Int) (f : UInt8) : Ch.pageOf id f false = ⟨3, id, 1, [f]⟩ := rfl
theorem pageOf_bad (id : Int) (f : UInt8) : Ch.pageOf id f true = ⟨0, id, 1, [f]⟩ := rfl

set_option maxRecDepth 100000 in
set_option maxHeartbeats 8000000 in
theorem step08_put {U G : Nat → Prop} {w : World} {c dp rg rc n sl : Nat} {C : Ch.Cache} {s : Shp} (hc : CIn U w c dp rg rc C) (hr : RefC G w C s) (hG : Held G w) (hGU : ∀ k, G k → ¬ U k) (hf : Ch.Fit n sl C) (hn : n ≤ 900) (A : Nat → Addr) (hsU : ∀ w1, Beside U w w1 → Sents w1 A) (kind id : Int) (fill : UInt8) (bad : Bool) (hk : kind = 1 ∧ bad = false) {D : Ch.Cache} {kk : Nat} (hD : Ch.put C ⟨3, id, 1, [fill]⟩ = (D, kk)) :
    Calls Tryz.prog 8 #[.pointer (some ⟨c, 0, none⟩), refCV C s, .agg #[.int .i64 kind, .int .i64 id, .int .u8 (fill.toNat : Int), .bool bad]] w (Stepped8 U G w c dp D) := by
  obtain ⟨hk, hkb⟩ := hk
  subst hk hkb
  have HD := Lib.hid hD
  clear hD
  have HC := Lib.hid hc
  have HUU := Lib.hid hc.held
  have HG := Lib.hid hG
  have HGU := Lib.hid hGU
  have HF := Lib.hid hf
  have HS := Lib.hid hsU
  obtain ⟨sa, sc, la, lc, wa, wq, ka, kc⟩ := s
  have H := Lib.hid hr
  unfold refCV
  clear hc hr hG hGU hf hsU
  go_enter Tryz.func8, Tryz.ntmps8
  go_upto_region 1 with fail
  obtain ⟨nb, hnb⟩ : ∃ nb, w.heap.size = nb := ⟨_, rfl⟩
  refine wp_name fun W hW => ?_
  have HH := Lib.hid (show Hav G w nb (nb + 1 + 1) (nb + 1) W C ⟨sa, sc, la, lc, wa, wq, ka, kc⟩ G from Hav.open_ H.out HG.out (by omega) (by rw [hW]; simp [hnb]) (by omega) (by rw [hW]; exact ((BoxAt.newAt _ _ hnb [_, _, _, _, _, _, _, _, _, _, _, _, _] _).alloc _).alloc _) (by rw [hW]; exact BoxAt.newAt _ _ (by simp [hnb]) [_, _, _, _, _, _, _, _, _, _, _, _, _] _) (by rw [hW]; go_grown))
  have HACT := Lib.hid (show BoxAt W (nb + 1) [.int .i64 1, .int .i64 id, .int .u8 (fill.toNat : Int), .bool false] by rw [hW]; exact (BoxAt.newAt _ _ (by simp [hnb]) [_, _, _, _] _).alloc _)
  have HNB := Lib.hid hnb
  clear hW
  rw [hnb]
  clear hnb
  have HCW := Lib.hid (HC.out.below HH.out.below)
  obtain ⟨x0, x1, x2, x3, x4, x5, x6, x7, x8, x9, x10, x11, x12⟩ := HH.out.x
  obtain ⟨r0, r1, r2, r3⟩ := HACT.out.four
  go_upto_region 8 with (go_at_call 28; (refine (leaf08_is id fill _ rfl _).mono ?_); (rintro e w1 ⟨⟨g, rfl, hga, hgb, hgo, hgf⟩, hb1⟩); (have HGO := Lib.hid hgo); (have HGF := Lib.hid hgf); (have HB1 := Lib.hid hb1); (clear hgo hgf hb1))
  obtain ⟨pb, hpb⟩ : ∃ pb, w1.heap.size = pb := ⟨_, rfl⟩
  refine wp_name fun V1 hV => ?_
  have hv : BoxAt V1 pb [.int .i64 3, .int .i64 id, .int .u64 1, .slice (some ⟨g, 0, none⟩) 1 1] ∧ Below w1.heap.size w1 V1 := by
    rw [hV]
    exact ⟨BoxAt.newAt _ _ hpb [_, _, _, _] _, by go_grown⟩
  have HPB1 := Lib.hid hv.1
  have HBA := Lib.hid (below_step HB1.out hv.2)
  have HBA1 := Lib.hid hv.2
  have hpe : w1.heap.size ≤ pb := Nat.le_of_eq hpb
  clear hV hv x0 x1 x2 x3 x4 x5 x6 x7 x8 x9 x10 x11 x12 r0 r1 r2 r3
  rw [hpb]
  clear hpb
  have HHA := Lib.hid (HH.out.later HBA.out)
  have HAA := Lib.hid (HACT.out.below HBA.out)
  obtain ⟨r0, r1, r2, r3⟩ := HAA.out.four
  go_upto_region 10 with fail
  obtain ⟨V0, hV0⟩ : ∃ V0, V0 = V1 := ⟨_, rfl⟩
  rw [← hV0]
  have HPB := Lib.hid (show BoxAt V0 pb [.int .i64 3, .int .i64 id, .int .u64 1, .slice (some ⟨g, 0, none⟩) 1 1] from by rw [hV0]; exact HPB1.out)
  have HB0 := Lib.hid (show Below w1.heap.size w1 V0 from by rw [hV0]; exact HBA1.out)
  clear hV0 r0 r1 r2 r3
  have HBW0 := Lib.hid (below_step HB1.out HB0.out)
  have HH1 := Lib.hid (HH.out.later HBW0.out)
  have HC1 := Lib.hid (HCW.out.below HBW0.out)
  have HGO0 := Lib.hid (HGO.out.below HB0.out)
  have HPUT := Lib.hid (show Calls Tryz.prog 37 #[.agg #[.slice sa C.slots.length sc, .int .i64 (C.hand : Int), .int .i64 (C.disk.blocks : Int), .int .i64 (C.disk.size : Int), .slice la C.disk.lasting.length lc, .slice wa C.disk.waiting.length wq, .bool C.disk.lit, .int .i64 C.disk.after, .int .i64 C.disk.torn, .int .i64 C.disk.cut, .slice ka C.disk.keep.length kc, .bool C.disk.off, .int .i64 C.disk.count], .agg #[.int .i64 3, .int .i64 id, .int .u64 1, .slice (some ⟨g, 0, none⟩) 1 1]] V0 (GivesCK G V0 D kk) from by
    have hh := refCput_is HH1.out.ref HH1.out.held HF.out.ok HF.out.tidy (by omega) ⟨3, id, 1, [fill]⟩ (some ⟨g, 0, none⟩) 1 HGO0.out (show 1 ≤ 100000 by decide) HD.out
    unfold refCV at hh
    exact hh)
  obtain ⟨x0, x1, x2, x3, x4, x5, x6, x7, x8, x9, x10, x11, x12⟩ := HH1.out.x
  obtain ⟨p0, p1, p2, p3⟩ := HPB.out.four
  go_upto_region 11 with (go_at_call 37; (refine HPUT.out.mono ?_); (rintro e w3 ⟨⟨⟨sa2, sc2, la2, lc2, wa2, wq2, ka2, kc2⟩, rfl, h3⟩, hb3⟩); (have H3 := Lib.hid h3); (have HB3 := Lib.hid hb3); (clear h3 hb3); (unfold refCV))
  obtain ⟨xb, hxb⟩ : ∃ xb, w3.heap.size = xb := ⟨_, rfl⟩
  refine wp_name fun V2 hV => ?_
  have hv : BoxAt V2 xb [.slice sa2 D.slots.length sc2, .int .i64 (D.hand : Int), .int .i64 (D.disk.blocks : Int), .int .i64 (D.disk.size : Int), .slice la2 D.disk.lasting.length lc2, .slice wa2 D.disk.waiting.length wq2, .bool D.disk.lit, .int .i64 D.disk.after, .int .i64 D.disk.torn, .int .i64 D.disk.cut, .slice ka2 D.disk.keep.length kc2, .bool D.disk.off, .int .i64 D.disk.count] ∧ Below w3.heap.size w3 V2 := by
    rw [hV]
    exact ⟨BoxAt.newAt _ _ hxb [_, _, _, _, _, _, _, _, _, _, _, _, _] _, by go_grown⟩
  have HXB := Lib.hid hv.1
  have HB2 := Lib.hid hv.2
  have hxe : w3.heap.size ≤ xb := Nat.le_of_eq hxb
  clear hV hv HPUT x0 x1 x2 x3 x4 x5 x6 x7 x8 x9 x10 x11 x12 p0 p1 p2 p3
  rw [hxb]
  clear hxb
  have hw0 := HNB.out
  have hl0 := HH.out.lt
  have hs1 := HB1.out.size
  have hs0 := HB0.out.size
  have hs3 := HB3.out.size
  have hs2 := HB2.out.size
  have hUlt : ∀ q, w.heap.size ≤ q → ¬ U q := fun q hq h => by have := HUU.out q h; omega
  have hwW := HH.out.below.size
  have HMORE := Lib.hid (HH1.out.more HB3.out)
  have HB02 := Lib.hid (below_step HB3.out HB2.out)
  have HBW2 := Lib.hid (below_step HBW0.out HB02.out)
  have HBH2 := Lib.hid (below_step HH1.out.below HB02.out)
  have HP2 := Lib.hid (HPB.out.below HB02.out)
  have HC2 := Lib.hid (HC1.out.below HB02.out)
  have HGO2 := Lib.hid (HGO0.out.below HB02.out)
  have hmeet : ∀ wx, Beside U V2 wx → Sents wx A := fun wx hx => HS.out wx ((Beside.of_below HBH2.out).same hx)
  have HMEET := Lib.hid hmeet
  have HCPUT := Lib.hid (show Calls Tryz.prog 38 #[.pointer (some ⟨c, 0, none⟩), .agg #[.int .i64 3, .int .i64 id, .int .u64 1, .slice (some ⟨g, 0, none⟩) 1 1]] V2 (CAct U V2 A c dp rg rc D kk) from
    cput_is HC2.out HF.out.ok (by omega) ⟨3, id, 1, [fill]⟩ (some ⟨g, 0, none⟩) 1 HGO2.out (fun k hk => by
      obtain rfl : g = k := Option.some.inj hk
      exact ⟨hUlt g (by omega), by omega⟩) (show 1 ≤ 100000 by decide) HD.out A hmeet)
  clear hmeet
  obtain ⟨p0, p1, p2, p3⟩ := HP2.out.four
  go_upto_region 12 with (go_at_call 38; (refine HCPUT.out.mono ?_); (rintro e w5 ⟨l5, v5, rfl, hE5, hC5, hB5⟩); (have HE5 := Lib.hid hE5); (have HC5 := Lib.hid hC5); (have HB5 := Lib.hid hB5); (clear hE5 hC5 hB5))
  clear p0 p1 p2 p3 HCPUT
  have hs5 := HB5.out.size
  have HP5 := Lib.hid (HP2.out.beside HB5.out (hUlt pb (by omega)))
  have HG5 := Lib.hid (show BytesAt w5 (.slice (some ⟨g, 0, none⟩) 1 1) [fill] from HGO2.out.on fun k hk => by
    obtain rfl : g = k := Option.some.inj hk
    exact HB5.out.block g (by omega) (hUlt g (by omega)))
  have hfz2 : V2.frozen? ⟨g, 0, none⟩ = false := by
    have hb := HB0.out.trans (HB02.out.mono hs0)
    have hh := HGF.out
    have he := hb.block g (by omega)
    unfold World.frozen? at hh ⊢
    rw [he]
    exact hh
  have hfz : w5.frozen? ⟨g, 0, none⟩ = false := by
    have he := HB5.out.block g (by omega) (hUlt g (by omega))
    unfold World.frozen? at hfz2 ⊢
    rw [he]
    exact hfz2
  have hcz := byte0 HG5.out
  obtain ⟨p0, p1, p2, p3⟩ := HP5.out.four
  have n3 := Near.cell (w := w5.drew) (row := none) (show w5.drew.cell? ⟨pb, 3, none⟩ = _ from p3) (by simp)
  have ng := Near.cell (w := w5.drew) (row := none) (show w5.drew.cell? ⟨g, 0, none⟩ = _ from hcz) (by simp)
  refine wp_region_mix (fun w' => ∃ x : Near w5.drew none, w' = x.world) [8] 9 (by kernel_rfl) rfl ?_
  refine mix_reads_lit [0, 1, 2, 3, 4, 5, 6, 7] 1 (by kernel_rfl) (by kernel_rfl) (by kernel_rfl) (by kernel_rfl) rfl (NearC.of (World.grownBy.refl _ _)) ?_
  simp only [pick, List.filterMap_cons, List.filterMap_nil, List.getElem?_cons_succ, List.getElem?_cons_zero]
  repeat (first | go_big_quiet_step (fail) | quiet_step (fail))
  refine wpQuiet_nil ?_
  clear n3 ng p0 p1 p2 p3
  refine mix_deed_lit 8 0 (by kernel_rfl) (by kernel_rfl) rfl (fun K hK => ?_)
  simp only [comesUp, List.getElem?_cons_succ, List.getElem?_cons_zero]
  refine if_mk rfl ?_
  go_simp
  refine hK _ _ (fun h => by simp [keeps] at h) ?_
  clear hK K hfz hfz2 hcz
  refine mix_done_lit (by kernel_rfl) ?_
  refine q_name fun Z hZ => ?_
  have hgz : w5.grownBy Z (some g) := by rw [hZ]; exact grown_drew (grownBy_set (World.grownBy.refl _ _) 0 _)
  clear hZ
  have HGZ := Lib.hid hgz
  have hsZ := hgz.size
  have hnG : ∀ k, More G V0 w3 k → k ≠ g := fun k hk e => by
    subst e
    rcases hk with hk | hk
    · have := HG.out _ hk; omega
    · omega
  have HRZ := Lib.hid (show RefC (More G V0 w3) Z D ⟨sa2, sc2, la2, lc2, wa2, wq2, ka2, kc2⟩ from H3.out.on fun k hk => by
    obtain ⟨g1, g2, g3⟩ := HMORE.out k hk
    have hkU : ¬ U k := by
      rcases hk with hk | hk
      · exact HGU.out k hk
      · exact hUlt k (by omega)
    rw [hgz.block k (by omega) (by intro e; exact hnG k hk (Option.some.inj e)), HB5.out.block k (by omega) hkU, HB2.out.block k g2])
  have HCZ := Lib.hid (HC5.out.keep hgz (fun h => by
    rcases h with h | h
    · exact hUlt g (by omega) h
    · omega))
  have HXZ := Lib.hid ((HXB.out.beside HB5.out (hUlt xb (by omega))).on (hgz.block xb (by have := HXB.out.lt; omega) (by intro e; have := Option.some.inj e; omega)))
  have HZZ := Lib.hid (((HH1.out.res.below HB02.out).beside HB5.out (hUlt (nb + 1 + 1) (by omega))).on (hgz.block (nb + 1 + 1) (by omega) (by intro e; have := Option.some.inj e; omega)))
  have HEZ := Lib.hid ((HE5.out.grown hgz (fun g' hg' => by have := Option.some.inj hg'; omega)).below (Below.refl _ _).drew)
  have HBZ := Lib.hid (show Beside U w Z from by
    have h5 := (Beside.of_below HBH2.out).same HB5.out
    exact ⟨by rw [hgz.os, h5.os], by rw [hgz.tape, h5.tape], by rw [hgz.output, h5.output], by have := h5.size; omega, fun k hk hku => by rw [hgz.block k (by have := h5.size; omega) (by intro e; have := Option.some.inj e; omega), h5.block k hk hku]⟩)
  have HSZ := Lib.hid (HS.out Z.drew ⟨HBZ.out.os, HBZ.out.tape, HBZ.out.output, HBZ.out.size, HBZ.out.block⟩)
  clear hgz
  go_upto_region 13 with fail
  obtain ⟨x0, x1, x2, x3, x4, x5, x6, x7, x8, x9, x10, x11, x12⟩ := (show BoxAt Z xb [.slice sa2 D.slots.length sc2, .int .i64 (D.hand : Int), .int .i64 (D.disk.blocks : Int), .int .i64 (D.disk.size : Int), .slice la2 D.disk.lasting.length lc2, .slice wa2 D.disk.waiting.length wq2, .bool D.disk.lit, .int .i64 D.disk.after, .int .i64 D.disk.torn, .int .i64 D.disk.cut, .slice ka2 D.disk.keep.length kc2, .bool D.disk.off, .int .i64 D.disk.count] from HXZ.out).thirteen
  have c0 := Near.cell (w := Z.drew) (row := none) (show Z.drew.cell? ⟨xb, 0, none⟩ = _ from x0) (by simp)
  have c1 := Near.cell (w := Z.drew) (row := none) (show Z.drew.cell? ⟨xb, 1, none⟩ = _ from x1) (by simp)
  have c2 := Near.cell (w := Z.drew) (row := none) (show Z.drew.cell? ⟨xb, 2, none⟩ = _ from x2) (by simp)
  have c3 := Near.cell (w := Z.drew) (row := none) (show Z.drew.cell? ⟨xb, 3, none⟩ = _ from x3) (by simp)
  have c4 := Near.cell (w := Z.drew) (row := none) (show Z.drew.cell? ⟨xb, 4, none⟩ = _ from x4) (by simp)
  have c5 := Near.cell (w := Z.drew) (row := none) (show Z.drew.cell? ⟨xb, 5, none⟩ = _ from x5) (by simp)
  have c6 := Near.cell (w := Z.drew) (row := none) (show Z.drew.cell? ⟨xb, 6, none⟩ = _ from x6) (by simp)
  have c7 := Near.cell (w := Z.drew) (row := none) (show Z.drew.cell? ⟨xb, 7, none⟩ = _ from x7) (by simp)
  have c8 := Near.cell (w := Z.drew) (row := none) (show Z.drew.cell? ⟨xb, 8, none⟩ = _ from x8) (by simp)
  have c9 := Near.cell (w := Z.drew) (row := none) (show Z.drew.cell? ⟨xb, 9, none⟩ = _ from x9) (by simp)
  have c10 := Near.cell (w := Z.drew) (row := none) (show Z.drew.cell? ⟨xb, 10, none⟩ = _ from x10) (by simp)
  have c11 := Near.cell (w := Z.drew) (row := none) (show Z.drew.cell? ⟨xb, 11, none⟩ = _ from x11) (by simp)
  have c12 := Near.cell (w := Z.drew) (row := none) (show Z.drew.cell? ⟨xb, 12, none⟩ = _ from x12) (by simp)
  refine wp_region_mix (fun w' => ∃ x : Near Z.drew none, w' = x.world) [4] 6 (by kernel_rfl) rfl ?_
  refine mix_reads_lit [0, 1, 2] 3 (by kernel_rfl) (by kernel_rfl) (by kernel_rfl) (by kernel_rfl) rfl (NearC.of (World.grownBy.refl _ _)) ?_
  simp only [pick, List.filterMap_cons, List.filterMap_nil, List.getElem?_cons_succ, List.getElem?_cons_zero]
  repeat (first | go_big_quiet_step (fail) | quiet_step (fail))
  refine wpQuiet_nil ?_
  clear c0 c1 c2 c3 c4 c5 c6 c7 c8 c9 c10 c11 c12 x0 x1 x2 x3 x4 x5 x6 x7 x8 x9 x10 x11 x12
  refine mix_deed_lit 3 2 (by kernel_rfl) (by kernel_rfl) rfl (fun K hK => ?_)
  simp only [comesUp, List.getElem?_cons_succ, List.getElem?_cons_zero]
  refine if_mk rfl ?_
  go_simp
  refine (tells08_any (w := Z.drew) HSZ.out l5 kk _ HEZ.out _ rfl).mono ?_
  rintro e w6 ⟨rfl, rfl⟩
  refine hK _ _ (fun _ h => h) ?_
  clear hK K
  obtain ⟨y0, y1, y2, y3, y4, y5, y6, y7, y8, y9, y10, y11, y12⟩ := HZZ.out.thirteen
  obtain ⟨f0, f1, f2, f3, f4, f5, f6, f7, f8, f9, f10, f11, f12⟩ := HZZ.out.thirteenF
  refine mix_deed_lit 4 1 (by kernel_rfl) (by kernel_rfl) rfl (fun K hK => ?_)
  simp only [comesUp, List.getElem?_cons_succ, List.getElem?_cons_zero]
  refine if_mk rfl ?_
  go_simp
  refine hK _ _ (fun h => by simp [keeps] at h) ?_
  clear hK K y0 y1 y2 y3 y4 y5 y6 y7 y8 y9 y10 y11 y12 f0 f1 f2 f3 f4 f5 f6 f7 f8 f9 f10 f11 f12
  obtain ⟨Z0, hZ0, hf, hgq⟩ := HZZ.out.fill13s (.slice sa2 D.slots.length sc2) (.int .i64 (D.hand : Int)) (.int .i64 (D.disk.blocks : Int)) (.int .i64 (D.disk.size : Int)) (.slice la2 D.disk.lasting.length lc2) (.slice wa2 D.disk.waiting.length wq2) (.bool D.disk.lit) (.int .i64 D.disk.after) (.int .i64 D.disk.torn) (.int .i64 D.disk.cut) (.slice ka2 D.disk.keep.length kc2) (.bool D.disk.off) (.int .i64 D.disk.count)
  rw [← hZ0]
  clear hZ0
  refine mix_flat_lit [5] 0 (by kernel_rfl) (by kernel_rfl) (by kernel_rfl) (by kernel_rfl) rfl ?_
  simp only [pick, List.filterMap_cons, List.filterMap_nil, List.getElem?_cons_succ, List.getElem?_cons_zero]
  repeat (first | go_big_quiet_step (fail) | quiet_step (fail))
  refine wpQuiet_nil ?_
  refine mix_done_lit (by kernel_rfl) ?_
  have HGQ := Lib.hid hgq
  obtain ⟨z0, z1, z2, z3, z4, z5, z6, z7, z8, z9, z10, z11, z12⟩ := hf.thirteen
  have HUL := Lib.hid hUlt
  clear hf hgq hUlt
  go_wp2_with fail
  refine bodyPost_ret (v := .tuple #[refCV D ⟨sa2, sc2, la2, lc2, wa2, wq2, ka2, kc2⟩, .bool true]) (by simp [results, Tryz.results8, go_sem, refCV, z0, z1, z2, z3, z4, z5, z6, z7, z8, z9, z10, z11, z12]) rfl ?_
  refine Stepped8.fin' (U1 := More U V2 w5) (X := More G V0 w3) (w' := Z0.drew) HCZ.out (fun k hk => ?_) HRZ.out (fun k hk => ⟨(HMORE.out k hk).1, by have := (HMORE.out k hk).2.1; omega, (HMORE.out k hk).2.2.2.1⟩) (fun k hk hku => ?_) HBZ.out ⟨by omega, by omega⟩ (grown_drew HGQ.out)
  · rcases hk with hk | hk
    · exact ⟨.inl hk, by have := HUU.out k hk; omega⟩
    · exact ⟨.inr (by omega), by omega⟩
  · have h2 := HMORE.out k hk
    rcases hku with hku | hku
    · rcases hk with hk | hk
      · exact HGU.out k hk hku
      · exact HUL.out k (by omega) hku
    · omega
end Go.Proofs.YtflbioiildndoaaGreatDoor

