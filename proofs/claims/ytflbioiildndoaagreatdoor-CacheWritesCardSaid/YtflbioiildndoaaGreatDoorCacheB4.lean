/- the statements of caches: step: Get (printed by wip/tools/rc/mk_step.py and gen_refc.py) -/
import Derived.Test.YtflbioiildndoaaGreatDoorCacheB3
import Derived.Test.YtflbioiildndoaaGreatDoorRefC9
import Derived.Test.YtflbioiildndoaaGreatDoorQ8
namespace Go.Proofs.YtflbioiildndoaaGreatDoor
open Go.RowKit
set_option linter.unusedVariables false
set_option linter.unusedSimpArgs false

set_option maxRecDepth 100000 in
set_option maxHeartbeats 8000000 in
theorem step08_get {U G : Nat → Prop} {w : World} {c dp rg rc n sl : Nat} {C : Ch.Cache} {s : Shp} (hc : CIn U w c dp rg rc C) (hr : RefC G w C s) (hG : Held G w) (hGU : ∀ k, G k → ¬ U k) (hf : Ch.Fit n sl C) (hn : n ≤ 900) (A : Nat → Addr) (hsU : ∀ w1, Beside U w w1 → Sents w1 A) (kind id : Int) (fill : UInt8) (bad : Bool) (hk : kind = 0) {D : Ch.Cache} {p : Pg.Page} {kk : Nat} (hD : Ch.get C id = (D, p, kk)) :
    Calls Tryz.prog 8 #[.pointer (some ⟨c, 0, none⟩), refCV C s, .agg #[.int .i64 kind, .int .i64 id, .int .u8 (fill.toNat : Int), .bool bad]] w (Stepped8 U G w c dp D) := by
  subst hk
  have HD := Lib.hid hD
  clear hD
  have HC := Lib.hid hc
  have HUU := Lib.hid hc.held
  have HG := Lib.hid hG
  have HGU := Lib.hid hGU
  have HF := Lib.hid hf
  have HS := Lib.hid hsU
  obtain ⟨sa, sc, la, lc, wa, wq, ka, kc⟩ := s
  have H := Lib.hid hr
  unfold refCV
  clear hc hr hG hGU hf hsU
  go_enter Tryz.func8, Tryz.ntmps8
  go_upto_region 1 with fail
  obtain ⟨nb, hnb⟩ : ∃ nb, w.heap.size = nb := ⟨_, rfl⟩
  refine wp_name fun W hW => ?_
  have HH := Lib.hid (show Hav G w nb (nb + 1 + 1) (nb + 1) W C ⟨sa, sc, la, lc, wa, wq, ka, kc⟩ G from Hav.open_ H.out HG.out (by omega) (by rw [hW]; simp [hnb]) (by omega) (by rw [hW]; exact ((BoxAt.newAt _ _ hnb [_, _, _, _, _, _, _, _, _, _, _, _, _] _).alloc _).alloc _) (by rw [hW]; exact BoxAt.newAt _ _ (by simp [hnb]) [_, _, _, _, _, _, _, _, _, _, _, _, _] _) (by rw [hW]; go_grown))
  have HACT := Lib.hid (show BoxAt W (nb + 1) [.int .i64 0, .int .i64 id, .int .u8 (fill.toNat : Int), .bool bad] by rw [hW]; exact (BoxAt.newAt _ _ (by simp [hnb]) [_, _, _, _] _).alloc _)
  have HNB := Lib.hid hnb
  clear hW
  rw [hnb]
  clear hnb
  have HCW := Lib.hid (HC.out.below HH.out.below)
  obtain ⟨x0, x1, x2, x3, x4, x5, x6, x7, x8, x9, x10, x11, x12⟩ := HH.out.x
  obtain ⟨r0, r1, r2, r3⟩ := HACT.out.four
  have HDOC := Lib.hid (show Calls Tryz.prog 33 #[.agg #[.slice sa C.slots.length sc, .int .i64 (C.hand : Int), .int .i64 (C.disk.blocks : Int), .int .i64 (C.disk.size : Int), .slice la C.disk.lasting.length lc, .slice wa C.disk.waiting.length wq, .bool C.disk.lit, .int .i64 C.disk.after, .int .i64 C.disk.torn, .int .i64 C.disk.cut, .slice ka C.disk.keep.length kc, .bool C.disk.off, .int .i64 C.disk.count], .int .i64 id] W (GivesCP G W D p kk) from by
    have hh := refCget_is HH.out.ref HH.out.held HF.out.ok (by omega) id HD.out
    unfold refCV at hh
    exact hh)
  go_upto_region 4 with (go_at_call 33; (refine HDOC.out.mono ?_); (rintro e w2 ⟨⟨⟨sa2, sc2, la2, lc2, wa2, wq2, ka2, kc2⟩, a2, c2, rfl, h2, hby2, hg2⟩, hb2⟩); (have H2 := Lib.hid h2); (have HB2 := Lib.hid hb2); (have HBY2 := Lib.hid hby2); (have HG2 := Lib.hid hg2); (clear h2 hb2 hby2 hg2); (unfold refCV))
  obtain ⟨xb, hxb⟩ : ∃ xb, w2.heap.size = xb := ⟨_, rfl⟩
  refine wp_name fun V1 hV => ?_
  have hv : BoxAt V1 xb [.slice sa2 D.slots.length sc2, .int .i64 (D.hand : Int), .int .i64 (D.disk.blocks : Int), .int .i64 (D.disk.size : Int), .slice la2 D.disk.lasting.length lc2, .slice wa2 D.disk.waiting.length wq2, .bool D.disk.lit, .int .i64 D.disk.after, .int .i64 D.disk.torn, .int .i64 D.disk.cut, .slice ka2 D.disk.keep.length kc2, .bool D.disk.off, .int .i64 D.disk.count] ∧ BoxAt V1 (xb + 1) [.int .i64 p.kind, .int .i64 p.id, .int .u64 (p.gen : Int), .slice a2 p.body.length c2] ∧ Below w2.heap.size w2 V1 := by
    rw [hV]
    exact ⟨(BoxAt.newAt _ _ hxb [_, _, _, _, _, _, _, _, _, _, _, _, _] _).alloc _, BoxAt.newAt _ _ (by simp [hxb]) [_, _, _, _] _, by go_grown⟩
  have HXB := Lib.hid hv.1
  have HPB := Lib.hid hv.2.1
  have HBV1 := Lib.hid hv.2.2
  have HXE := Lib.hid hxb
  clear hV hv HDOC x0 x1 x2 x3 x4 x5 x6 x7 x8 x9 x10 x11 x12 r0 r1 r2 r3
  rw [hxb]
  clear hxb
  have HBW1 := Lib.hid (below_step HB2.out HBV1.out)
  have HMORE := Lib.hid (HH.out.more HB2.out)
  have HH1 := Lib.hid (HH.out.later HBW1.out)
  have HA1 := Lib.hid (HACT.out.below HBW1.out)
  have HC1 := Lib.hid (HCW.out.below HBW1.out)
  have hmeet : ∀ wx, Beside U V1 wx → Sents wx A := fun wx hx => HS.out wx ((Beside.of_below HH1.out.below).same hx)
  have HMEET := Lib.hid hmeet
  have HGET := Lib.hid (cget_is HC1.out HF.out.ok (by omega) id HD.out A hmeet)
  clear hmeet
  obtain ⟨r0, r1, r2, r3⟩ := HA1.out.four
  go_upto_region 5 with (go_at_call 34; (refine HGET.out.mono ?_); (rintro e w4 ⟨l4, v4, a4, c4, rfl, hE4, hO4, hC4, hB4⟩); (have HE4 := Lib.hid hE4); (have HO4 := Lib.hid hO4); (have HC4 := Lib.hid hC4); (have HB4 := Lib.hid hB4); (clear hE4 hO4 hC4 hB4))
  obtain ⟨qb, hqb⟩ : ∃ qb, w4.heap.size = qb := ⟨_, rfl⟩
  refine wp_name fun V hV => ?_
  have hbV : Below w4.heap.size w4 V := by rw [hV]; exact (Below.refl _ _).alloc (Nat.le_refl _) _
  have HQB := Lib.hid (show BoxAt V qb [.int .i64 p.kind, .int .i64 p.id, .int .u64 (p.gen : Int), .slice a4 p.body.length c4] by rw [hV]; exact BoxAt.newAt _ _ hqb [_, _, _, _] _)
  have HBV := Lib.hid hbV
  have hqe : w4.heap.size ≤ qb := Nat.le_of_eq hqb
  clear hV hbV HGET r0 r1 r2 r3
  rw [hqb]
  clear hqb
  have hUlt : ∀ q, w.heap.size ≤ q → ¬ U q := fun q hq h => by have := HUU.out q h; omega
  have hw0 := HNB.out
  have hl0 := HH.out.lt
  have hs2 := HB2.out.size
  have hs1 := HBV1.out.size
  have hs4 := HB4.out.size
  have hsV := HBV.out.size
  have hxe := HXE.out
  have HXV := Lib.hid ((HXB.out.beside HB4.out (hUlt xb (by omega))).below HBV.out)
  have HPV := Lib.hid ((HPB.out.beside HB4.out (hUlt (xb + 1) (by omega))).below HBV.out)
  have HZV := Lib.hid ((HH1.out.res.beside HB4.out (hUlt (nb + 1 + 1) (by omega))).below HBV.out)
  have HRV := Lib.hid (show RefC (More G W w2) V D ⟨sa2, sc2, la2, lc2, wa2, wq2, ka2, kc2⟩ from H2.out.on fun k hk => by
    obtain ⟨g1, g2, g3⟩ := HMORE.out k hk
    have hkU : ¬ U k := by
      rcases hk with hk | hk
      · exact HGU.out k hk
      · exact hUlt k (by omega)
    rw [HBV.out.block k (by omega), HB4.out.block k (by omega) hkU, HBV1.out.block k g2])
  have HBYV := Lib.hid (show BytesAt V (.slice a2 p.body.length c2) p.body from HBY2.out.onE HG2.out fun k hk => by
    obtain ⟨g1, g2, g3⟩ := HMORE.out k hk
    have hkU : ¬ U k := by
      rcases hk with hk | hk
      · exact HGU.out k hk
      · exact hUlt k (by omega)
    rw [HBV.out.block k (by omega), HB4.out.block k (by omega) hkU, HBV1.out.block k g2])
  have HOV := Lib.hid (HO4.out.bytes.below HBV.out)
  have HEV := Lib.hid ((HE4.out.below HBV.out).below (Below.refl _ _).drew)
  have HSV := Lib.hid (HMEET.out V.drew ((HB4.out.low (HBV.out.mono hs4)).same ⟨rfl, rfl, rfl, Nat.le_refl _, fun _ _ _ => rfl⟩))
  obtain ⟨x0, x1, x2, x3, x4, x5, x6, x7, x8, x9, x10, x11, x12⟩ := (show BoxAt V xb [.slice sa2 D.slots.length sc2, .int .i64 (D.hand : Int), .int .i64 (D.disk.blocks : Int), .int .i64 (D.disk.size : Int), .slice la2 D.disk.lasting.length lc2, .slice wa2 D.disk.waiting.length wq2, .bool D.disk.lit, .int .i64 D.disk.after, .int .i64 D.disk.torn, .int .i64 D.disk.cut, .slice ka2 D.disk.keep.length kc2, .bool D.disk.off, .int .i64 D.disk.count] from HXV.out).thirteen
  obtain ⟨m0, m1, m2, m3⟩ := HPV.out.four
  obtain ⟨n0, n1, n2, n3⟩ := HQB.out.four
  have hn1 : (some (nb + 1 + 1) : Option Nat) ≠ some xb := by intro e; have := Option.some.inj e; omega
  have hn2 : (some (nb + 1 + 1) : Option Nat) ≠ some (xb + 1) := by intro e; have := Option.some.inj e; omega
  have hn3 : (some (nb + 1 + 1) : Option Nat) ≠ some qb := by intro e; have := Option.some.inj e; omega
  have c0 := Near.cell (w := V.drew) (row := some (nb + 1 + 1)) (show V.drew.cell? ⟨xb, 0, none⟩ = _ from x0) hn1
  have c1 := Near.cell (w := V.drew) (row := some (nb + 1 + 1)) (show V.drew.cell? ⟨xb, 1, none⟩ = _ from x1) hn1
  have c2 := Near.cell (w := V.drew) (row := some (nb + 1 + 1)) (show V.drew.cell? ⟨xb, 2, none⟩ = _ from x2) hn1
  have c3 := Near.cell (w := V.drew) (row := some (nb + 1 + 1)) (show V.drew.cell? ⟨xb, 3, none⟩ = _ from x3) hn1
  have c4 := Near.cell (w := V.drew) (row := some (nb + 1 + 1)) (show V.drew.cell? ⟨xb, 4, none⟩ = _ from x4) hn1
  have c5 := Near.cell (w := V.drew) (row := some (nb + 1 + 1)) (show V.drew.cell? ⟨xb, 5, none⟩ = _ from x5) hn1
  have c6 := Near.cell (w := V.drew) (row := some (nb + 1 + 1)) (show V.drew.cell? ⟨xb, 6, none⟩ = _ from x6) hn1
  have c7 := Near.cell (w := V.drew) (row := some (nb + 1 + 1)) (show V.drew.cell? ⟨xb, 7, none⟩ = _ from x7) hn1
  have c8 := Near.cell (w := V.drew) (row := some (nb + 1 + 1)) (show V.drew.cell? ⟨xb, 8, none⟩ = _ from x8) hn1
  have c9 := Near.cell (w := V.drew) (row := some (nb + 1 + 1)) (show V.drew.cell? ⟨xb, 9, none⟩ = _ from x9) hn1
  have c10 := Near.cell (w := V.drew) (row := some (nb + 1 + 1)) (show V.drew.cell? ⟨xb, 10, none⟩ = _ from x10) hn1
  have c11 := Near.cell (w := V.drew) (row := some (nb + 1 + 1)) (show V.drew.cell? ⟨xb, 11, none⟩ = _ from x11) hn1
  have c12 := Near.cell (w := V.drew) (row := some (nb + 1 + 1)) (show V.drew.cell? ⟨xb, 12, none⟩ = _ from x12) hn1
  have d0 := Near.cell (w := V.drew) (row := some (nb + 1 + 1)) (show V.drew.cell? ⟨xb + 1, 0, none⟩ = _ from m0) hn2
  have d1 := Near.cell (w := V.drew) (row := some (nb + 1 + 1)) (show V.drew.cell? ⟨xb + 1, 1, none⟩ = _ from m1) hn2
  have d2 := Near.cell (w := V.drew) (row := some (nb + 1 + 1)) (show V.drew.cell? ⟨xb + 1, 2, none⟩ = _ from m2) hn2
  have d3 := Near.cell (w := V.drew) (row := some (nb + 1 + 1)) (show V.drew.cell? ⟨xb + 1, 3, none⟩ = _ from m3) hn2
  have q0 := Near.cell (w := V.drew) (row := some (nb + 1 + 1)) (show V.drew.cell? ⟨qb, 0, none⟩ = _ from n0) hn3
  have q1 := Near.cell (w := V.drew) (row := some (nb + 1 + 1)) (show V.drew.cell? ⟨qb, 1, none⟩ = _ from n1) hn3
  have q2 := Near.cell (w := V.drew) (row := some (nb + 1 + 1)) (show V.drew.cell? ⟨qb, 2, none⟩ = _ from n2) hn3
  have q3 := Near.cell (w := V.drew) (row := some (nb + 1 + 1)) (show V.drew.cell? ⟨qb, 3, none⟩ = _ from n3) hn3
  refine wp_region_mix (fun w' => ∃ x : Near V.drew (some (nb + 1 + 1)), w' = x.world) [] 11 (by kernel_rfl) rfl ?_
  refine mix_reads_lit [0, 1, 2] 8 (by kernel_rfl) (by kernel_rfl) (by kernel_rfl) (by kernel_rfl) rfl (NearC.of (World.grownBy.refl _ _)) ?_
  simp only [pick, List.filterMap_cons, List.filterMap_nil, List.getElem?_cons_succ, List.getElem?_cons_zero]
  repeat (first | go_big_quiet_step (fail) | quiet_step (fail))
  refine wpQuiet_nil ?_
  clear c0 c1 c2 c3 c4 c5 c6 c7 c8 c9 c10 c11 c12 x0 x1 x2 x3 x4 x5 x6 x7 x8 x9 x10 x11 x12
  refine mix_deed_lit 3 7 (by kernel_rfl) (by kernel_rfl) rfl (fun K hK => ?_)
  simp only [comesUp, List.getElem?_cons_succ, List.getElem?_cons_zero]
  refine if_mk rfl ?_
  go_simp
  refine (tells08_any (w := V.drew) HSV.out l4 kk _ HEV.out _ rfl).mono ?_
  rintro e w5 ⟨rfl, rfl⟩
  refine hK _ _ (fun _ h => h) ?_
  clear hK K
  refine mix_reads_lit [4, 5, 6] 4 (by kernel_rfl) (by kernel_rfl) (by kernel_rfl) (by kernel_rfl) rfl (NearC.of (World.grownBy.refl _ _)) ?_
  simp only [pick, List.filterMap_cons, List.filterMap_nil, List.getElem?_cons_succ, List.getElem?_cons_zero]
  repeat (first | go_big_quiet_step (fail) | quiet_step (fail))
  refine wpQuiet_nil ?_
  clear d0 d1 d2 d3 q0 q1 q2 q3 m0 m1 m2 m3 n0 n1 n2 n3 hn1 hn2 hn3
  have hsame := refSame_any p p (.slice a2 p.body.length c2) (.slice a4 p.body.length c4) V.drew (HBYV.out.below (Below.refl _ _).drew) (HOV.out.below (Below.refl _ _).drew)
  rw [pageEq_self] at hsame
  refine mix_deed_lit 7 3 (by kernel_rfl) (by kernel_rfl) rfl (fun K hK => ?_)
  simp only [comesUp, List.getElem?_cons_succ, List.getElem?_cons_zero]
  refine if_mk rfl ?_
  go_simp
  refine hsame.mono ?_
  rintro e w8 ⟨rfl, hb8⟩
  have b8 : Below V.heap.size V w8 := below_step (Below.refl _ _).drew hb8
  have b8' : Below V.heap.size V.drew w8 := ⟨b8.os, b8.tape, b8.output, b8.size, b8.block⟩
  refine hK _ _ (fun _ _ => NearC.of (grown_of_below b8' (Nat.le_refl _) _)) ?_
  clear hK K hsame
  have HB8 := Lib.hid b8
  have HB8' := Lib.hid b8'
  clear b8 hb8
  refine mix_reads_lit [8] 2 (by kernel_rfl) (by kernel_rfl) (by kernel_rfl) (by kernel_rfl) rfl (NearC.of (grown_of_below b8' (Nat.le_refl _) _)) ?_
  simp only [pick, List.filterMap_cons, List.filterMap_nil, List.getElem?_cons_succ, List.getElem?_cons_zero]
  repeat (first | go_big_quiet_step (fail) | quiet_step (fail))
  refine wpQuiet_nil ?_
  clear b8'
  have HZ8 := Lib.hid (HZV.out.below HB8.out)
  obtain ⟨y0, y1, y2, y3, y4, y5, y6, y7, y8, y9, y10, y11, y12⟩ := HZ8.out.thirteen
  obtain ⟨f0, f1, f2, f3, f4, f5, f6, f7, f8, f9, f10, f11, f12⟩ := HZ8.out.thirteenF
  refine mix_deed_lit 9 1 (by kernel_rfl) (by kernel_rfl) rfl (fun K hK => ?_)
  simp only [comesUp, List.getElem?_cons_succ, List.getElem?_cons_zero]
  refine if_mk rfl ?_
  go_simp
  obtain ⟨Z0, hZ0, hf, hgz⟩ := HZ8.out.fill13s (.slice sa2 D.slots.length sc2) (.int .i64 (D.hand : Int)) (.int .i64 (D.disk.blocks : Int)) (.int .i64 (D.disk.size : Int)) (.slice la2 D.disk.lasting.length lc2) (.slice wa2 D.disk.waiting.length wq2) (.bool D.disk.lit) (.int .i64 D.disk.after) (.int .i64 D.disk.torn) (.int .i64 D.disk.cut) (.slice ka2 D.disk.keep.length kc2) (.bool D.disk.off) (.int .i64 D.disk.count)
  rw [← hZ0]
  clear hZ0
  refine hK _ _ (fun _ _ => NearC.of (grown_trans (grown_of_below HB8'.out (Nat.le_refl _) _) hgz)) ?_
  clear hK K y0 y1 y2 y3 y4 y5 y6 y7 y8 y9 y10 y11 y12 f0 f1 f2 f3 f4 f5 f6 f7 f8 f9 f10 f11 f12
  refine mix_flat_lit [10] 0 (by kernel_rfl) (by kernel_rfl) (by kernel_rfl) (by kernel_rfl) rfl ?_
  simp only [pick, List.filterMap_cons, List.filterMap_nil, List.getElem?_cons_succ, List.getElem?_cons_zero]
  repeat (first | go_big_quiet_step (fail) | quiet_step (fail))
  refine wpQuiet_nil ?_
  refine mix_done_lit (by kernel_rfl) ?_
  have HGZ := Lib.hid hgz
  obtain ⟨z0, z1, z2, z3, z4, z5, z6, z7, z8, z9, z10, z11, z12⟩ := hf.thirteen
  have HUL := Lib.hid hUlt
  clear hf hgz hUlt
  go_wp2_with fail
  refine bodyPost_ret (v := .tuple #[refCV D ⟨sa2, sc2, la2, lc2, wa2, wq2, ka2, kc2⟩, .bool true]) (by simp [results, Tryz.results8, go_sem, refCV, z0, z1, z2, z3, z4, z5, z6, z7, z8, z9, z10, z11, z12]) rfl ?_
  have hs8 := HB8.out.size
  refine Stepped8.fin' (U1 := More U V1 w4) (X := More G W w2) ((HC4.out.below HBV.out).below HB8.out) (fun k hk => ?_) (HRV.out.on fun k hk => HB8.out.block k (by have := (HMORE.out k hk).2.1; omega)) (fun k hk => ⟨(HMORE.out k hk).1, by have := (HMORE.out k hk).2.1; omega, (HMORE.out k hk).2.2.2.1⟩) (fun k hk hku => ?_) ((((Beside.of_below HH1.out.below).same HB4.out).low (HBV.out.mono (by have := HH1.out.below.size; omega))).low (HB8.out.mono (by have := HH1.out.below.size; omega))) ⟨by omega, by omega⟩ HGZ.out
  · rcases hk with hk | hk
    · exact ⟨.inl hk, by have := HUU.out k hk; omega⟩
    · exact ⟨.inr (by omega), by omega⟩
  · have h2 := HMORE.out k hk
    rcases hku with hku | hku
    · rcases hk with hk | hk
      · exact HGU.out k hk hku
      · exact HUL.out k (by omega) hku
    · omega
end Go.Proofs.YtflbioiildndoaaGreatDoor

