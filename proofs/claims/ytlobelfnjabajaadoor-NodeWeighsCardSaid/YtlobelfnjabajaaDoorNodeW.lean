/- nodes: NodeWeighs (printed by wip/tools/gen_nodew.py) -/
import Derived.Test.YtlobelfnjabajaaDoorNodeA2
import Derived.Test.YtlobelfnjabajaaDoorNear
import Derived.Test.YtlobelfnjabajaaDoorSteps
namespace Go.Proofs.YtlobelfnjabajaaDoor
open Go.RowKit
set_option linter.unusedVariables false
set_option linter.unusedSimpArgs false

section
variable {C : World → Prop} {P : Program}
/-- three deeds, any of which may come up -/
theorem mix_three_lit {l : List Oper} {last : List Nat} {Q : Act → World → Prop} {n : Nat} {listed : Array Bool} {a : Act} {w : World} (i j m fuel : Nat) (hin : (decide (i < l.length) && (decide (j < l.length) && decide (m < l.length))) = true) (hr : Region.ready .any l.toArray listed = [i, j, m]) (hn : n = fuel + 1)
    (h1 : ∀ K : Act → World → Prop, (∀ a' w', (keeps last i = true → C w → C w') → Mix P l.toArray C last Q fuel (listed.setIfInBounds i true) a' w' → K a' w') → comesUp P l i a w K)
    (h2 : ∀ K : Act → World → Prop, (∀ a' w', (keeps last j = true → C w → C w') → Mix P l.toArray C last Q fuel (listed.setIfInBounds j true) a' w' → K a' w') → comesUp P l j a w K)
    (h3 : ∀ K : Act → World → Prop, (∀ a' w', (keeps last m = true → C w → C w') → Mix P l.toArray C last Q fuel (listed.setIfInBounds m true) a' w' → K a' w') → comesUp P l m a w K) : Mix P l.toArray C last Q n listed a w := by
  subst hn
  simp only [Bool.and_eq_true, decide_eq_true_eq] at hin
  refine ⟨fun h0 => by rw [hr] at h0; simp at h0, fun k hk => ?_⟩
  rw [hr] at hk
  unfold opM
  rcases (show k = i ∨ k = j ∨ k = m by simpa using hk) with rfl | rfl | rfl
  · have := h1 (fun a' w' => (keeps last k = true → C w → C w') ∧ wpAnyM P .any l.toArray C (keeps last) Q fuel (listed.setIfInBounds k true) a' w') fun a' w' g1 g2 => ⟨g1, g2⟩
    unfold comesUp at this
    rw [List.getElem?_eq_getElem hin.1] at this
    simp only [List.getElem?_toArray, List.getElem?_eq_getElem hin.1]
    exact this
  · have := h2 (fun a' w' => (keeps last k = true → C w → C w') ∧ wpAnyM P .any l.toArray C (keeps last) Q fuel (listed.setIfInBounds k true) a' w') fun a' w' g1 g2 => ⟨g1, g2⟩
    unfold comesUp at this
    rw [List.getElem?_eq_getElem hin.2.1] at this
    simp only [List.getElem?_toArray, List.getElem?_eq_getElem hin.2.1]
    exact this
  · have := h3 (fun a' w' => (keeps last k = true → C w → C w') ∧ wpAnyM P .any l.toArray C (keeps last) Q fuel (listed.setIfInBounds k true) a' w') fun a' w' g1 g2 => ⟨g1, g2⟩
    unfold comesUp at this
    rw [List.getElem?_eq_getElem hin.2.2] at this
    simp only [List.getElem?_toArray, List.getElem?_eq_getElem hin.2.2]
    exact this
end
section
variable {α : Type} {E : Elem α}
theorem rowAt_grown {w w' : World} {row : Option Nat} {g n c : Nat} {l : List α} (h : RowAt E w (.slice (some ⟨g, 0, none⟩) n c) l) (hg : w.grownBy w' row) (hne : row ≠ some g) : RowAt E w' (.slice (some ⟨g, 0, none⟩) n c) l := by
  obtain ⟨a, c', e, h1, h2, h3⟩ := h
  refine ⟨a, c', e, h1, h2, h3.imp id ?_⟩
  rintro ⟨b, o, rfl, hc⟩
  simp only [Value.slice.injEq, Option.some.injEq, Addr.mk.injEq] at e
  obtain ⟨⟨rfl, rfl, -⟩, -, -⟩ := e
  exact ⟨_, _, rfl, fun i x hx j u hu => grown_cell hg (hc i x hx j u hu) hne⟩
theorem ownR_grown {w w' : World} {row : Option Nat} {base : Nat} {v : Value} {l : List α} (h : OwnR E w base v l) (hg : w.grownBy w' row) (hne : ∀ k, v.ownBlock = some k → row ≠ some k) : OwnR E w' base v l := by
  refine ⟨h.1, h.2.imp id ?_⟩
  rintro ⟨g, cap, cur, rfl, h2, h3, r⟩
  exact ⟨g, cap, cur, rfl, h2, by rw [hg.block g (Array.getElem?_eq_some_iff.1 h3).1 (fun e => hne g rfl e.symm)]; exact h3, r⟩
theorem ownR_new {w : World} {g base : Nat} (hg : w.heap[g]? = some (.cells #[] E.el (0, 0))) (hb : base ≤ g) : OwnR E w base (.slice (some ⟨g, 0, none⟩) 0 0) [] :=
  ⟨by simp [Elem.all], .inr ⟨g, 0, #[], rfl, hb, hg, Nat.le_refl _, Nat.zero_le _, by simp, by simp [Elem.all]⟩⟩
theorem row_new {w : World} (x : α) {g : Nat} {cs : Array Value} {t : TypeId} (hg : w.heap[g]? = some (.cells cs t (0, 0))) (hcs : cs.toList = E.enc x) : RowAt E w (.slice (some ⟨g, 0, none⟩) 1 1) [x] := by
  refine ⟨_, 1, rfl, by simp, by unfold maxLen; omega, .inr ⟨g, 0, rfl, fun i y hy j u hu => ?_⟩⟩
  have h0 : i = 0 := by
    have := (List.getElem?_eq_some_iff.1 hy).1
    simp at this; omega
  subst h0
  simp at hy
  subst hy
  rw [← hcs] at hu
  rw [show 0 + (0 * E.size + j) = j by omega, cell_of_row _ g j cs t (0, 0) hg]
  simpa using hu
end
theorem box_new {w : World} {g : Nat} {t : TypeId} (vs : List Value) (hg : w.heap[g]? = some (.cells vs.toArray t (0, 0))) (_h : true = true) : BoxAt w g vs := by
  refine ⟨(Array.getElem?_eq_some_iff.1 hg).1, fun i v hv => ⟨?_, ?_⟩⟩
  · rw [cell_of_row _ g i _ t (0, 0) hg]; simpa using hv
  · simp [World.frozen?, hg]
theorem near_ne {w : World} {v v' : Value} {g : Nat} (h : v'.ownBlock = v.ownBlock ∨ ∀ k, v'.ownBlock = some k → w.heap.size ≤ k) (hn : v.ownBlock ≠ some g) (hl : g < w.heap.size) : v'.ownBlock ≠ some g := by
  rcases h with h | h
  · rw [h]; exact hn
  · intro e; have := h g e; omega
/-- what the statement's second node is: a box of its own, its entries a row of its own -/
def WMid (D w' : World) (g : Nat) (v : Value) (l : List Nd.Ent) : Prop :=
  D.grownBy w' none ∧ BoxAt w' g [.bool true, v, .slice none 0 0, .slice none 0 0] ∧ OwnR eEnt w' D.heap.size v l
theorem WMid.back {D0 D w' : World} {g : Nat} {v : Value} {l : List Nd.Ent} (h : WMid D w' g v l) (hg : D0.grownBy D none) (hs : D.heap.size = D0.heap.size) : WMid D0 w' g v l := ⟨grown_trans hg h.1, h.2.1, by rw [← hs]; exact h.2.2⟩
theorem weighs_last {D V : World} {g : Nat} {v : Value} {l : List Nd.Ent} (gb : D.grownBy V none) (hA : OwnR eEnt V D.heap.size v l) (hX : BoxAt V g [.bool false, .slice none 0 0, .slice none 0 0, .slice none 0 0]) (hne : v.ownBlock ≠ some g) (lX : D.heap.size ≤ g) :
    WMid D ((((V.setCell ⟨g, 0, none⟩ (.bool true)).setCell ⟨g, 1, none⟩ v).setCell ⟨g, 2, none⟩ (.slice none 0 0)).setCell ⟨g, 3, none⟩ (.slice none 0 0)) g v l := by
  have hgr : V.grownBy ((((V.setCell ⟨g, 0, none⟩ (.bool true)).setCell ⟨g, 1, none⟩ v).setCell ⟨g, 2, none⟩ (.slice none 0 0)).setCell ⟨g, 3, none⟩ (.slice none 0 0)) (some g) := by
    repeat (first | refine grownBy_set ?_ _ _ | exact World.grownBy.refl _ _)
  exact ⟨grown_new gb hgr (fun k hk => by cases hk; exact lX), (((hX.put 0 _).put 1 _).put 2 _).put 3 _, ownR_grown hA hgr fun k hk e => hne (by rw [hk]; exact e.symm)⟩
set_option maxRecDepth 100000 in
set_option maxHeartbeats 4000000 in
theorem nodeWeighs_walk {S : Nat → Prop} [Has S 1] [Has S 2] (lf : Bool) (es : List Nd.Ent) (ks : List ByteArray) (ki : List Int) (a1 a2 a3 : Option Addr) (c1 c2 c3 : Nat) (en : Nd.Ent) (w : World) (A : Nat → Addr) (hs : SentsOn S w A) (h1 : RowAt eEnt w (.slice a1 es.length c1) es) (h2 : RowAt eStr w (.slice a2 ks.length c2) ks) (h3 : IntsAt w (.slice a3 ki.length c3) ki) :
    Calls Tryd.prog 6 #[.agg #[.bool lf, .slice a1 es.length c1, .slice a2 ks.length c2, .slice a3 ki.length c3], .agg #[.string en.key, .string en.value, .int .i64 en.chain, .int .i64 en.size]] w fun e w' => e = .returned (.bool true) ∧ Below w.heap.size w w' := by
  obtain ⟨key, value, chain, size⟩ := en
  have HS := Lib.hid hs
  have H1 := Lib.hid h1
  have H2 := Lib.hid h2
  have H3 := Lib.hid h3
  clear hs h1 h2 h3
  go_enter Tryd.func6, Tryd.ntmps6
  go_upto_region 1 with fail
  refine wp_name fun W hW => ?_
  have HX0 := Lib.hid (show BoxAt W w.heap.size [.bool lf, .slice a1 es.length c1, .slice a2 ks.length c2, .slice a3 ki.length c3] by rw [hW]; exact ((BoxAt.new w [_, _, _, _] _).alloc _))
  have HY0 := Lib.hid (show BoxAt W (w.heap.size + 1) [.string key, .string value, .int .i64 chain, .int .i64 size] by rw [hW]; exact BoxAt.newAt _ _ (by simp) [_, _, _, _] _)
  have HB0 := Lib.hid (show Below w.heap.size w W by rw [hW]; go_grown)
  clear hW
  obtain ⟨m0, m1, m2, m3⟩ := HX0.out.four
  cases hl : lightB es.length ks.length ki.length with
  | false =>
    have HL := Lib.hid hl
    clear hl
    go_wp2_with (first
      | (go_at_call 14; (refine (light7_is lf _ _ _ false HL.out _ _ _ _ _ _ _).mono ?_); (rintro e w1 ⟨rfl, hb1⟩); (have HB1 := Lib.hid (below_step HB0.out hb1)); (have HX1 := Lib.hid (HX0.out.below hb1)); (clear hb1 m0 m1 m2 m3); (obtain ⟨m0, m1, m2, m3⟩ := HX1.out.four))
      | (go_at_call 15; (refine (awake7_any _ A (HS.out.below HB1.out)).mono ?_); (rintro e w3 ⟨rfl, hb3⟩); (have HB3 := Lib.hid (below_step HB1.out hb3)); (clear hb3)))
    go_ret
    exact ⟨rfl, HB3.out⟩
  | true =>
  have HL := Lib.hid hl
  obtain ⟨q1, q3, q2⟩ := light_yes hl
  clear hl
  cases lf with
  | false =>
    go_wp2_with (first
      | (go_at_call 14; (refine (light7_is false _ _ _ true HL.out _ _ _ _ _ _ _).mono ?_); (rintro e w1 ⟨rfl, hb1⟩); (have HB1 := Lib.hid (below_step HB0.out hb1)); (have HX1 := Lib.hid (HX0.out.below hb1)); (clear hb1 m0 m1 m2 m3); (obtain ⟨m0, m1, m2, m3⟩ := HX1.out.four))
      | (go_at_call 15; (refine (awake7_any _ A (HS.out.below HB1.out)).mono ?_); (rintro e w3 ⟨rfl, hb3⟩); (have HB3 := Lib.hid (below_step HB1.out hb3)); (clear hb3)))
    go_ret
    exact ⟨rfl, HB3.out⟩
  | true =>
  obtain ⟨es', hes⟩ : ∃ l, es ++ [(⟨key, value, chain, size⟩ : Nd.Ent)] = l := ⟨_, rfl⟩
  have hle : es'.length ≤ 301 := by rw [← hes]; simp; omega
  have HES := Lib.hid hes
  clear hes
  go_upto_region 3 with (go_at_call 14; (refine (light7_is true _ _ _ true HL.out _ _ _ _ _ _ _).mono ?_); (rintro e w1 ⟨rfl, hb1⟩); (have HB1 := Lib.hid (below_step HB0.out hb1)); (have HX1 := Lib.hid (HX0.out.below hb1)); (have HY1 := Lib.hid (HY0.out.below hb1)); (clear hb1 m0 m1 m2 m3); (obtain ⟨m0, m1, m2, m3⟩ := HX1.out.four))
  clear m0 m1 m2 m3
  go_cut [5] (fun v wx => ∃ g8 a6 c6, v = .pointer (some ⟨g8, 0, none⟩) ∧ WMid w1 wx g8 (.slice a6 es'.length c6) es')
  case first =>
    obtain ⟨m0, m1, m2, m3⟩ := HX1.out.four
    obtain ⟨n0, n1, n2, n3⟩ := HY1.out.four
    have HDG := Lib.hid (show w1.grownBy w1.drew none from grown_of_below (Below.refl _ _).drew (Nat.le_refl _) none)
    have p1 := Near.cell (w := w1.drew) (row := none) (show w1.drew.cell? ⟨w.heap.size, 1, none⟩ = _ from m1) (by simp)
    have r0 := Near.cell (w := w1.drew) (row := none) (show w1.drew.cell? ⟨w.heap.size + 1, 0, none⟩ = _ from n0) (by simp)
    have r1 := Near.cell (w := w1.drew) (row := none) (show w1.drew.cell? ⟨w.heap.size + 1, 1, none⟩ = _ from n1) (by simp)
    have r2 := Near.cell (w := w1.drew) (row := none) (show w1.drew.cell? ⟨w.heap.size + 1, 2, none⟩ = _ from n2) (by simp)
    have r3 := Near.cell (w := w1.drew) (row := none) (show w1.drew.cell? ⟨w.heap.size + 1, 3, none⟩ = _ from n3) (by simp)
    refine wp_region_mix (fun w' => ∃ x : Near w1.drew none, w' = x.world) [] 10 (by kernel_rfl) rfl ?_
    refine mix_reads_lit [1, 2, 4] 7 (by kernel_rfl) (by kernel_rfl) (by kernel_rfl) (by kernel_rfl) rfl (NearC.of (World.grownBy.refl _ _)) ?_
    simp only [pick, List.filterMap_cons, List.filterMap_nil, List.getElem?_cons_succ, List.getElem?_cons_zero]
    repeat (first | go_big_quiet_step (fail) | quiet_step (fail))
    refine wpQuiet_nil ?_
    clear p1 r0 r1 r2 r3 m0 m1 m2 m3 n0 n1 n2 n3
    have hN : RowAt eEnt w1.drew (.slice a1 es.length c1) es := (H1.out.below HB1.out).below (Below.refl _ _).drew
    have gb := World.grownBy.refl w1.drew none
    have gs : w1.drew.heap.size ≤ w1.drew.heap.size := Nat.le_refl _
    have HDS := Lib.hid (show w1.drew.heap.size = w1.heap.size from rfl)
    generalize hwd : w1.drew = D at *
    clear hwd
    refine mix_three_lit 0 5 8 6 (by kernel_rfl) (by kernel_rfl) rfl (fun K hK => ?_) (fun K hK => ?_) (fun K hK => ?_)
    · skip
      simp only [comesUp, List.getElem?_cons_succ, List.getElem?_cons_zero]
      refine if_mk rfl ?_
      go_simp
      obtain ⟨g0, D0, eg, en, hg, kg, lg, mg⟩ := alloc_facts D (.cells #[] 44)
      rw [en, eg]
      clear en eg
      have gb' := grown_trans gb kg
      refine hK _ _ (fun _ _ => NearC.of gb') ?_
      clear hK K gb
      have gb := gb'
      clear gb'
      have hA := ownR_new (E := eEnt) hg (Nat.le_trans gs lg)
      clear gs
      have gs := grown_size gb
      clear hg kg lg mg
      refine mix_three_lit 3 5 8 5 (by kernel_rfl) (by kernel_rfl) rfl (fun K hK => ?_) (fun K hK => ?_) (fun K hK => ?_)
      · skip
        simp only [comesUp, List.getElem?_cons_succ, List.getElem?_cons_zero]
        refine if_mk rfl ?_
        refine step_append_near eEnt eEnt_ok (.tmp 15) (.tmp 17) rfl D.heap.size _ [] rfl hA es (hN.below (grown_below gb (by simp) (Nat.le_refl _))) (by simp; omega) (by simp; omega) gs ?_
        rw [List.nil_append]
        intro v3 D3 ho hg hnr
        have gb' := grown_new gb hg (fun k hk => (hA.lt k hk).1)
        refine hK _ _ (fun _ _ => NearC.of gb') ?_
        clear hK K gb
        have gb := gb'
        clear gb'
        clear hA
        have hA := ho
        clear ho hg hnr gs
        have gs := grown_size gb
        obtain ⟨a3, c3, rfl, -, -⟩ := hA.slice
        refine mix_two_lit 5 8 4 (by kernel_rfl) (by kernel_rfl) rfl (fun K hK => ?_) (fun K hK => ?_)
        · skip
          simp only [comesUp, List.getElem?_cons_succ, List.getElem?_cons_zero]
          refine if_mk rfl ?_
          go_simp
          obtain ⟨g5, D5, eg, en, hg, kg, lg, mg⟩ := alloc_facts D3 (.cells #[.string key, .string value, .int .i64 chain, .int .i64 size] 44)
          rw [en, eg]
          clear en eg
          have gb' := grown_trans gb kg
          refine hK _ _ (fun _ _ => NearC.of gb') ?_
          clear hK K gb
          have gb := gb'
          clear gb'
          have hA' := hA.below (grown_below kg (by simp) (Nat.le_refl _)) (Nat.le_refl _)
          have hE := row_new (E := eEnt) ⟨key, value, chain, size⟩ hg rfl
          have lt5 := mg
          have ne5 := fun e => Nat.lt_irrefl _ (Nat.lt_of_lt_of_le (hA.lt _ e).2 lg)
          clear hA
          have hA := hA'
          clear hA'
          clear gs
          have gs := grown_size gb
          clear hg kg lg mg
          refine mix_two_lit 6 8 3 (by kernel_rfl) (by kernel_rfl) rfl (fun K hK => ?_) (fun K hK => ?_)
          · skip
            simp only [comesUp, List.getElem?_cons_succ, List.getElem?_cons_zero]
            refine if_mk rfl ?_
            refine step_append_near eEnt eEnt_ok (.tmp 18) (.tmp 20) rfl D.heap.size _ es rfl hA [⟨key, value, chain, size⟩] hE (by simp; omega) (by simp; omega) gs ?_
            intro v6 D6 ho hg hnr
            have gb' := grown_new gb hg (fun k hk => (hA.lt k hk).1)
            refine hK _ _ (fun _ _ => NearC.of gb') ?_
            clear hK K gb
            have gb := gb'
            clear gb'
            clear hA
            have hA := ho
            clear ho hg hnr gs
            have gs := grown_size gb
            clear hE lt5
            rw [HES.out] at hA
            obtain ⟨a6, c6, rfl, -, -⟩ := hA.slice
            refine mix_reads_lit [7] 2 (by kernel_rfl) (by kernel_rfl) (by kernel_rfl) (by kernel_rfl) rfl (NearC.of gb) ?_
            simp only [pick, List.filterMap_cons, List.filterMap_nil, List.getElem?_cons_succ, List.getElem?_cons_zero]
            repeat (first | go_big_quiet_step (fail) | quiet_step (fail))
            refine wpQuiet_nil ?_
            refine mix_deed_lit 8 1 (by kernel_rfl) (by kernel_rfl) rfl (fun K hK => ?_)
            simp only [comesUp, List.getElem?_cons_succ, List.getElem?_cons_zero]
            refine if_mk rfl ?_
            go_simp
            obtain ⟨g8, D8, eg, en, hg, kg, lg, mg⟩ := alloc_facts D6 (.cells #[.bool false, .slice none 0 0, .slice none 0 0, .slice none 0 0] 26)
            rw [en, eg]
            clear en eg
            have gb' := grown_trans gb kg
            refine hK _ _ (fun _ _ => NearC.of gb') ?_
            clear hK K gb
            have gb := gb'
            clear gb'
            have hA' := hA.below (grown_below kg (by simp) (Nat.le_refl _)) (Nat.le_refl _)
            have hX := box_new [_, _, _, _] hg rfl
            have lX := Nat.le_trans gs lg
            have ne8 := fun e => Nat.lt_irrefl _ (Nat.lt_of_lt_of_le (hA.lt _ e).2 lg)
            clear hA
            have hA := hA'
            clear hA'
            clear gs
            have gs := grown_size gb
            clear hg kg lg mg
            have HFIN := Lib.hid (weighs_last gb hA hX ne8 lX)
            obtain ⟨x0, x1, x2, x3⟩ := hX.four
            obtain ⟨y0, y1, y2, y3⟩ := hX.four_free
            refine mix_deed_lit 9 0 (by kernel_rfl) (by kernel_rfl) rfl (fun K hK => ?_)
            simp only [comesUp, List.getElem?_cons_succ, List.getElem?_cons_zero]
            refine if_mk rfl ?_
            go_simp
            refine hK _ _ (fun _ _ => NearC.of HFIN.out.1) ?_
            clear hK K
            refine mix_done_lit (by kernel_rfl) ?_
            clear x0 x1 x2 x3 y0 y1 y2 y3 hA hX ne8 lX gb gs
            go_wp2_with fail
            go_meet
            exact ⟨g8, a6, c6, rfl, HFIN.out.back HDG.out HDS.out⟩
          · skip
            simp only [comesUp, List.getElem?_cons_succ, List.getElem?_cons_zero]
            refine if_mk rfl ?_
            go_simp
            obtain ⟨g8, D8, eg, en, hg, kg, lg, mg⟩ := alloc_facts D5 (.cells #[.bool false, .slice none 0 0, .slice none 0 0, .slice none 0 0] 26)
            rw [en, eg]
            clear en eg
            have gb' := grown_trans gb kg
            refine hK _ _ (fun _ _ => NearC.of gb') ?_
            clear hK K gb
            have gb := gb'
            clear gb'
            have hA' := hA.below (grown_below kg (by simp) (Nat.le_refl _)) (Nat.le_refl _)
            have hE' := hE.below (grown_below kg (by simp) (Nat.le_refl _))
            have lt5' := Nat.lt_of_lt_of_le lt5 (grown_size kg)
            have hX := box_new [_, _, _, _] hg rfl
            have lX := Nat.le_trans gs lg
            have ne8 := fun e => Nat.lt_irrefl _ (Nat.lt_of_lt_of_le (hA.lt _ e).2 lg)
            clear hA
            have hA := hA'
            clear hA'
            clear hE lt5
            have hE := hE'
            have lt5 := lt5'
            clear hE' lt5'
            clear gs
            have gs := grown_size gb
            clear hg kg lg mg
            refine mix_deed_lit 6 2 (by kernel_rfl) (by kernel_rfl) rfl (fun K hK => ?_)
            simp only [comesUp, List.getElem?_cons_succ, List.getElem?_cons_zero]
            refine if_mk rfl ?_
            refine step_append_near eEnt eEnt_ok (.tmp 18) (.tmp 20) rfl D.heap.size _ es rfl hA [⟨key, value, chain, size⟩] hE (by simp; omega) (by simp; omega) gs ?_
            intro v6 D6 ho hg hnr
            have gb' := grown_new gb hg (fun k hk => (hA.lt k hk).1)
            refine hK _ _ (fun _ _ => NearC.of gb') ?_
            clear hK K gb
            have gb := gb'
            clear gb'
            have ne8' := near_ne hnr ne8 hX.lt
            have hX' := hX.grownR hg ne8
            clear hX ne8
            have hX := hX'
            have ne8 := ne8'
            clear hX' ne8'
            clear hA
            have hA := ho
            clear ho hg hnr gs
            have gs := grown_size gb
            clear hE lt5
            rw [HES.out] at hA
            obtain ⟨a6, c6, rfl, -, -⟩ := hA.slice
            refine mix_reads_lit [7] 1 (by kernel_rfl) (by kernel_rfl) (by kernel_rfl) (by kernel_rfl) rfl (NearC.of gb) ?_
            simp only [pick, List.filterMap_cons, List.filterMap_nil, List.getElem?_cons_succ, List.getElem?_cons_zero]
            repeat (first | go_big_quiet_step (fail) | quiet_step (fail))
            refine wpQuiet_nil ?_
            have HFIN := Lib.hid (weighs_last gb hA hX ne8 lX)
            obtain ⟨x0, x1, x2, x3⟩ := hX.four
            obtain ⟨y0, y1, y2, y3⟩ := hX.four_free
            refine mix_deed_lit 9 0 (by kernel_rfl) (by kernel_rfl) rfl (fun K hK => ?_)
            simp only [comesUp, List.getElem?_cons_succ, List.getElem?_cons_zero]
            refine if_mk rfl ?_
            go_simp
            refine hK _ _ (fun _ _ => NearC.of HFIN.out.1) ?_
            clear hK K
            refine mix_done_lit (by kernel_rfl) ?_
            clear x0 x1 x2 x3 y0 y1 y2 y3 hA hX ne8 lX gb gs
            go_wp2_with fail
            go_meet
            exact ⟨g8, a6, c6, rfl, HFIN.out.back HDG.out HDS.out⟩
        · skip
          simp only [comesUp, List.getElem?_cons_succ, List.getElem?_cons_zero]
          refine if_mk rfl ?_
          go_simp
          obtain ⟨g8, D8, eg, en, hg, kg, lg, mg⟩ := alloc_facts D3 (.cells #[.bool false, .slice none 0 0, .slice none 0 0, .slice none 0 0] 26)
          rw [en, eg]
          clear en eg
          have gb' := grown_trans gb kg
          refine hK _ _ (fun _ _ => NearC.of gb') ?_
          clear hK K gb
          have gb := gb'
          clear gb'
          have hA' := hA.below (grown_below kg (by simp) (Nat.le_refl _)) (Nat.le_refl _)
          have hX := box_new [_, _, _, _] hg rfl
          have lX := Nat.le_trans gs lg
          have ne8 := fun e => Nat.lt_irrefl _ (Nat.lt_of_lt_of_le (hA.lt _ e).2 lg)
          clear hA
          have hA := hA'
          clear hA'
          clear gs
          have gs := grown_size gb
          clear hg kg lg mg
          refine mix_deed_lit 5 3 (by kernel_rfl) (by kernel_rfl) rfl (fun K hK => ?_)
          simp only [comesUp, List.getElem?_cons_succ, List.getElem?_cons_zero]
          refine if_mk rfl ?_
          go_simp
          obtain ⟨g5, D5, eg, en, hg, kg, lg, mg⟩ := alloc_facts D8 (.cells #[.string key, .string value, .int .i64 chain, .int .i64 size] 44)
          rw [en, eg]
          clear en eg
          have gb' := grown_trans gb kg
          refine hK _ _ (fun _ _ => NearC.of gb') ?_
          clear hK K gb
          have gb := gb'
          clear gb'
          have hA' := hA.below (grown_below kg (by simp) (Nat.le_refl _)) (Nat.le_refl _)
          have hX' := hX.grownR kg (by simp)
          have hE := row_new (E := eEnt) ⟨key, value, chain, size⟩ hg rfl
          have lt5 := mg
          have ne5 := fun e => Nat.lt_irrefl _ (Nat.lt_of_lt_of_le (hA.lt _ e).2 lg)
          clear hA
          have hA := hA'
          clear hA'
          clear hX
          have hX := hX'
          clear hX'
          clear gs
          have gs := grown_size gb
          clear hg kg lg mg
          refine mix_deed_lit 6 2 (by kernel_rfl) (by kernel_rfl) rfl (fun K hK => ?_)
          simp only [comesUp, List.getElem?_cons_succ, List.getElem?_cons_zero]
          refine if_mk rfl ?_
          refine step_append_near eEnt eEnt_ok (.tmp 18) (.tmp 20) rfl D.heap.size _ es rfl hA [⟨key, value, chain, size⟩] hE (by simp; omega) (by simp; omega) gs ?_
          intro v6 D6 ho hg hnr
          have gb' := grown_new gb hg (fun k hk => (hA.lt k hk).1)
          refine hK _ _ (fun _ _ => NearC.of gb') ?_
          clear hK K gb
          have gb := gb'
          clear gb'
          have ne8' := near_ne hnr ne8 hX.lt
          have hX' := hX.grownR hg ne8
          clear hX ne8
          have hX := hX'
          have ne8 := ne8'
          clear hX' ne8'
          clear hA
          have hA := ho
          clear ho hg hnr gs
          have gs := grown_size gb
          clear hE lt5
          rw [HES.out] at hA
          obtain ⟨a6, c6, rfl, -, -⟩ := hA.slice
          refine mix_reads_lit [7] 1 (by kernel_rfl) (by kernel_rfl) (by kernel_rfl) (by kernel_rfl) rfl (NearC.of gb) ?_
          simp only [pick, List.filterMap_cons, List.filterMap_nil, List.getElem?_cons_succ, List.getElem?_cons_zero]
          repeat (first | go_big_quiet_step (fail) | quiet_step (fail))
          refine wpQuiet_nil ?_
          have HFIN := Lib.hid (weighs_last gb hA hX ne8 lX)
          obtain ⟨x0, x1, x2, x3⟩ := hX.four
          obtain ⟨y0, y1, y2, y3⟩ := hX.four_free
          refine mix_deed_lit 9 0 (by kernel_rfl) (by kernel_rfl) rfl (fun K hK => ?_)
          simp only [comesUp, List.getElem?_cons_succ, List.getElem?_cons_zero]
          refine if_mk rfl ?_
          go_simp
          refine hK _ _ (fun _ _ => NearC.of HFIN.out.1) ?_
          clear hK K
          refine mix_done_lit (by kernel_rfl) ?_
          clear x0 x1 x2 x3 y0 y1 y2 y3 hA hX ne8 lX gb gs
          go_wp2_with fail
          go_meet
          exact ⟨g8, a6, c6, rfl, HFIN.out.back HDG.out HDS.out⟩
      · skip
        simp only [comesUp, List.getElem?_cons_succ, List.getElem?_cons_zero]
        refine if_mk rfl ?_
        go_simp
        obtain ⟨g5, D5, eg, en, hg, kg, lg, mg⟩ := alloc_facts D0 (.cells #[.string key, .string value, .int .i64 chain, .int .i64 size] 44)
        rw [en, eg]
        clear en eg
        have gb' := grown_trans gb kg
        refine hK _ _ (fun _ _ => NearC.of gb') ?_
        clear hK K gb
        have gb := gb'
        clear gb'
        have hA' := hA.below (grown_below kg (by simp) (Nat.le_refl _)) (Nat.le_refl _)
        have hE := row_new (E := eEnt) ⟨key, value, chain, size⟩ hg rfl
        have lt5 := mg
        have ne5 := fun e => Nat.lt_irrefl _ (Nat.lt_of_lt_of_le (hA.lt _ e).2 lg)
        clear hA
        have hA := hA'
        clear hA'
        clear gs
        have gs := grown_size gb
        clear hg kg lg mg
        refine mix_two_lit 3 8 4 (by kernel_rfl) (by kernel_rfl) rfl (fun K hK => ?_) (fun K hK => ?_)
        · skip
          simp only [comesUp, List.getElem?_cons_succ, List.getElem?_cons_zero]
          refine if_mk rfl ?_
          refine step_append_near eEnt eEnt_ok (.tmp 15) (.tmp 17) rfl D.heap.size _ [] rfl hA es (hN.below (grown_below gb (by simp) (Nat.le_refl _))) (by simp; omega) (by simp; omega) gs ?_
          rw [List.nil_append]
          intro v3 D3 ho hg hnr
          have gb' := grown_new gb hg (fun k hk => (hA.lt k hk).1)
          refine hK _ _ (fun _ _ => NearC.of gb') ?_
          clear hK K gb
          have gb := gb'
          clear gb'
          have ne5' := near_ne hnr ne5 lt5
          have hE' := rowAt_grown hE hg ne5
          have lt5' := Nat.lt_of_lt_of_le lt5 (grown_size hg)
          clear hE lt5 ne5
          have hE := hE'
          have lt5 := lt5'
          have ne5 := ne5'
          clear hE' lt5' ne5'
          clear hA
          have hA := ho
          clear ho hg hnr gs
          have gs := grown_size gb
          obtain ⟨a3, c3, rfl, -, -⟩ := hA.slice
          refine mix_two_lit 6 8 3 (by kernel_rfl) (by kernel_rfl) rfl (fun K hK => ?_) (fun K hK => ?_)
          · skip
            simp only [comesUp, List.getElem?_cons_succ, List.getElem?_cons_zero]
            refine if_mk rfl ?_
            refine step_append_near eEnt eEnt_ok (.tmp 18) (.tmp 20) rfl D.heap.size _ es rfl hA [⟨key, value, chain, size⟩] hE (by simp; omega) (by simp; omega) gs ?_
            intro v6 D6 ho hg hnr
            have gb' := grown_new gb hg (fun k hk => (hA.lt k hk).1)
            refine hK _ _ (fun _ _ => NearC.of gb') ?_
            clear hK K gb
            have gb := gb'
            clear gb'
            clear hA
            have hA := ho
            clear ho hg hnr gs
            have gs := grown_size gb
            clear hE lt5
            rw [HES.out] at hA
            obtain ⟨a6, c6, rfl, -, -⟩ := hA.slice
            refine mix_reads_lit [7] 2 (by kernel_rfl) (by kernel_rfl) (by kernel_rfl) (by kernel_rfl) rfl (NearC.of gb) ?_
            simp only [pick, List.filterMap_cons, List.filterMap_nil, List.getElem?_cons_succ, List.getElem?_cons_zero]
            repeat (first | go_big_quiet_step (fail) | quiet_step (fail))
            refine wpQuiet_nil ?_
            refine mix_deed_lit 8 1 (by kernel_rfl) (by kernel_rfl) rfl (fun K hK => ?_)
            simp only [comesUp, List.getElem?_cons_succ, List.getElem?_cons_zero]
            refine if_mk rfl ?_
            go_simp
            obtain ⟨g8, D8, eg, en, hg, kg, lg, mg⟩ := alloc_facts D6 (.cells #[.bool false, .slice none 0 0, .slice none 0 0, .slice none 0 0] 26)
            rw [en, eg]
            clear en eg
            have gb' := grown_trans gb kg
            refine hK _ _ (fun _ _ => NearC.of gb') ?_
            clear hK K gb
            have gb := gb'
            clear gb'
            have hA' := hA.below (grown_below kg (by simp) (Nat.le_refl _)) (Nat.le_refl _)
            have hX := box_new [_, _, _, _] hg rfl
            have lX := Nat.le_trans gs lg
            have ne8 := fun e => Nat.lt_irrefl _ (Nat.lt_of_lt_of_le (hA.lt _ e).2 lg)
            clear hA
            have hA := hA'
            clear hA'
            clear gs
            have gs := grown_size gb
            clear hg kg lg mg
            have HFIN := Lib.hid (weighs_last gb hA hX ne8 lX)
            obtain ⟨x0, x1, x2, x3⟩ := hX.four
            obtain ⟨y0, y1, y2, y3⟩ := hX.four_free
            refine mix_deed_lit 9 0 (by kernel_rfl) (by kernel_rfl) rfl (fun K hK => ?_)
            simp only [comesUp, List.getElem?_cons_succ, List.getElem?_cons_zero]
            refine if_mk rfl ?_
            go_simp
            refine hK _ _ (fun _ _ => NearC.of HFIN.out.1) ?_
            clear hK K
            refine mix_done_lit (by kernel_rfl) ?_
            clear x0 x1 x2 x3 y0 y1 y2 y3 hA hX ne8 lX gb gs
            go_wp2_with fail
            go_meet
            exact ⟨g8, a6, c6, rfl, HFIN.out.back HDG.out HDS.out⟩
          · skip
            simp only [comesUp, List.getElem?_cons_succ, List.getElem?_cons_zero]
            refine if_mk rfl ?_
            go_simp
            obtain ⟨g8, D8, eg, en, hg, kg, lg, mg⟩ := alloc_facts D3 (.cells #[.bool false, .slice none 0 0, .slice none 0 0, .slice none 0 0] 26)
            rw [en, eg]
            clear en eg
            have gb' := grown_trans gb kg
            refine hK _ _ (fun _ _ => NearC.of gb') ?_
            clear hK K gb
            have gb := gb'
            clear gb'
            have hA' := hA.below (grown_below kg (by simp) (Nat.le_refl _)) (Nat.le_refl _)
            have hE' := hE.below (grown_below kg (by simp) (Nat.le_refl _))
            have lt5' := Nat.lt_of_lt_of_le lt5 (grown_size kg)
            have hX := box_new [_, _, _, _] hg rfl
            have lX := Nat.le_trans gs lg
            have ne8 := fun e => Nat.lt_irrefl _ (Nat.lt_of_lt_of_le (hA.lt _ e).2 lg)
            clear hA
            have hA := hA'
            clear hA'
            clear hE lt5
            have hE := hE'
            have lt5 := lt5'
            clear hE' lt5'
            clear gs
            have gs := grown_size gb
            clear hg kg lg mg
            refine mix_deed_lit 6 2 (by kernel_rfl) (by kernel_rfl) rfl (fun K hK => ?_)
            simp only [comesUp, List.getElem?_cons_succ, List.getElem?_cons_zero]
            refine if_mk rfl ?_
            refine step_append_near eEnt eEnt_ok (.tmp 18) (.tmp 20) rfl D.heap.size _ es rfl hA [⟨key, value, chain, size⟩] hE (by simp; omega) (by simp; omega) gs ?_
            intro v6 D6 ho hg hnr
            have gb' := grown_new gb hg (fun k hk => (hA.lt k hk).1)
            refine hK _ _ (fun _ _ => NearC.of gb') ?_
            clear hK K gb
            have gb := gb'
            clear gb'
            have ne8' := near_ne hnr ne8 hX.lt
            have hX' := hX.grownR hg ne8
            clear hX ne8
            have hX := hX'
            have ne8 := ne8'
            clear hX' ne8'
            clear hA
            have hA := ho
            clear ho hg hnr gs
            have gs := grown_size gb
            clear hE lt5
            rw [HES.out] at hA
            obtain ⟨a6, c6, rfl, -, -⟩ := hA.slice
            refine mix_reads_lit [7] 1 (by kernel_rfl) (by kernel_rfl) (by kernel_rfl) (by kernel_rfl) rfl (NearC.of gb) ?_
            simp only [pick, List.filterMap_cons, List.filterMap_nil, List.getElem?_cons_succ, List.getElem?_cons_zero]
            repeat (first | go_big_quiet_step (fail) | quiet_step (fail))
            refine wpQuiet_nil ?_
            have HFIN := Lib.hid (weighs_last gb hA hX ne8 lX)
            obtain ⟨x0, x1, x2, x3⟩ := hX.four
            obtain ⟨y0, y1, y2, y3⟩ := hX.four_free
            refine mix_deed_lit 9 0 (by kernel_rfl) (by kernel_rfl) rfl (fun K hK => ?_)
            simp only [comesUp, List.getElem?_cons_succ, List.getElem?_cons_zero]
            refine if_mk rfl ?_
            go_simp
            refine hK _ _ (fun _ _ => NearC.of HFIN.out.1) ?_
            clear hK K
            refine mix_done_lit (by kernel_rfl) ?_
            clear x0 x1 x2 x3 y0 y1 y2 y3 hA hX ne8 lX gb gs
            go_wp2_with fail
            go_meet
            exact ⟨g8, a6, c6, rfl, HFIN.out.back HDG.out HDS.out⟩
        · skip
          simp only [comesUp, List.getElem?_cons_succ, List.getElem?_cons_zero]
          refine if_mk rfl ?_
          go_simp
          obtain ⟨g8, D8, eg, en, hg, kg, lg, mg⟩ := alloc_facts D5 (.cells #[.bool false, .slice none 0 0, .slice none 0 0, .slice none 0 0] 26)
          rw [en, eg]
          clear en eg
          have gb' := grown_trans gb kg
          refine hK _ _ (fun _ _ => NearC.of gb') ?_
          clear hK K gb
          have gb := gb'
          clear gb'
          have hA' := hA.below (grown_below kg (by simp) (Nat.le_refl _)) (Nat.le_refl _)
          have hE' := hE.below (grown_below kg (by simp) (Nat.le_refl _))
          have lt5' := Nat.lt_of_lt_of_le lt5 (grown_size kg)
          have hX := box_new [_, _, _, _] hg rfl
          have lX := Nat.le_trans gs lg
          have ne8 := fun e => Nat.lt_irrefl _ (Nat.lt_of_lt_of_le (hA.lt _ e).2 lg)
          clear hA
          have hA := hA'
          clear hA'
          clear hE lt5
          have hE := hE'
          have lt5 := lt5'
          clear hE' lt5'
          clear gs
          have gs := grown_size gb
          clear hg kg lg mg
          refine mix_deed_lit 3 3 (by kernel_rfl) (by kernel_rfl) rfl (fun K hK => ?_)
          simp only [comesUp, List.getElem?_cons_succ, List.getElem?_cons_zero]
          refine if_mk rfl ?_
          refine step_append_near eEnt eEnt_ok (.tmp 15) (.tmp 17) rfl D.heap.size _ [] rfl hA es (hN.below (grown_below gb (by simp) (Nat.le_refl _))) (by simp; omega) (by simp; omega) gs ?_
          rw [List.nil_append]
          intro v3 D3 ho hg hnr
          have gb' := grown_new gb hg (fun k hk => (hA.lt k hk).1)
          refine hK _ _ (fun _ _ => NearC.of gb') ?_
          clear hK K gb
          have gb := gb'
          clear gb'
          have ne5' := near_ne hnr ne5 lt5
          have hE' := rowAt_grown hE hg ne5
          have lt5' := Nat.lt_of_lt_of_le lt5 (grown_size hg)
          clear hE lt5 ne5
          have hE := hE'
          have lt5 := lt5'
          have ne5 := ne5'
          clear hE' lt5' ne5'
          have ne8' := near_ne hnr ne8 hX.lt
          have hX' := hX.grownR hg ne8
          clear hX ne8
          have hX := hX'
          have ne8 := ne8'
          clear hX' ne8'
          clear hA
          have hA := ho
          clear ho hg hnr gs
          have gs := grown_size gb
          obtain ⟨a3, c3, rfl, -, -⟩ := hA.slice
          refine mix_deed_lit 6 2 (by kernel_rfl) (by kernel_rfl) rfl (fun K hK => ?_)
          simp only [comesUp, List.getElem?_cons_succ, List.getElem?_cons_zero]
          refine if_mk rfl ?_
          refine step_append_near eEnt eEnt_ok (.tmp 18) (.tmp 20) rfl D.heap.size _ es rfl hA [⟨key, value, chain, size⟩] hE (by simp; omega) (by simp; omega) gs ?_
          intro v6 D6 ho hg hnr
          have gb' := grown_new gb hg (fun k hk => (hA.lt k hk).1)
          refine hK _ _ (fun _ _ => NearC.of gb') ?_
          clear hK K gb
          have gb := gb'
          clear gb'
          have ne8' := near_ne hnr ne8 hX.lt
          have hX' := hX.grownR hg ne8
          clear hX ne8
          have hX := hX'
          have ne8 := ne8'
          clear hX' ne8'
          clear hA
          have hA := ho
          clear ho hg hnr gs
          have gs := grown_size gb
          clear hE lt5
          rw [HES.out] at hA
          obtain ⟨a6, c6, rfl, -, -⟩ := hA.slice
          refine mix_reads_lit [7] 1 (by kernel_rfl) (by kernel_rfl) (by kernel_rfl) (by kernel_rfl) rfl (NearC.of gb) ?_
          simp only [pick, List.filterMap_cons, List.filterMap_nil, List.getElem?_cons_succ, List.getElem?_cons_zero]
          repeat (first | go_big_quiet_step (fail) | quiet_step (fail))
          refine wpQuiet_nil ?_
          have HFIN := Lib.hid (weighs_last gb hA hX ne8 lX)
          obtain ⟨x0, x1, x2, x3⟩ := hX.four
          obtain ⟨y0, y1, y2, y3⟩ := hX.four_free
          refine mix_deed_lit 9 0 (by kernel_rfl) (by kernel_rfl) rfl (fun K hK => ?_)
          simp only [comesUp, List.getElem?_cons_succ, List.getElem?_cons_zero]
          refine if_mk rfl ?_
          go_simp
          refine hK _ _ (fun _ _ => NearC.of HFIN.out.1) ?_
          clear hK K
          refine mix_done_lit (by kernel_rfl) ?_
          clear x0 x1 x2 x3 y0 y1 y2 y3 hA hX ne8 lX gb gs
          go_wp2_with fail
          go_meet
          exact ⟨g8, a6, c6, rfl, HFIN.out.back HDG.out HDS.out⟩
      · skip
        simp only [comesUp, List.getElem?_cons_succ, List.getElem?_cons_zero]
        refine if_mk rfl ?_
        go_simp
        obtain ⟨g8, D8, eg, en, hg, kg, lg, mg⟩ := alloc_facts D0 (.cells #[.bool false, .slice none 0 0, .slice none 0 0, .slice none 0 0] 26)
        rw [en, eg]
        clear en eg
        have gb' := grown_trans gb kg
        refine hK _ _ (fun _ _ => NearC.of gb') ?_
        clear hK K gb
        have gb := gb'
        clear gb'
        have hA' := hA.below (grown_below kg (by simp) (Nat.le_refl _)) (Nat.le_refl _)
        have hX := box_new [_, _, _, _] hg rfl
        have lX := Nat.le_trans gs lg
        have ne8 := fun e => Nat.lt_irrefl _ (Nat.lt_of_lt_of_le (hA.lt _ e).2 lg)
        clear hA
        have hA := hA'
        clear hA'
        clear gs
        have gs := grown_size gb
        clear hg kg lg mg
        refine mix_two_lit 3 5 4 (by kernel_rfl) (by kernel_rfl) rfl (fun K hK => ?_) (fun K hK => ?_)
        · skip
          simp only [comesUp, List.getElem?_cons_succ, List.getElem?_cons_zero]
          refine if_mk rfl ?_
          refine step_append_near eEnt eEnt_ok (.tmp 15) (.tmp 17) rfl D.heap.size _ [] rfl hA es (hN.below (grown_below gb (by simp) (Nat.le_refl _))) (by simp; omega) (by simp; omega) gs ?_
          rw [List.nil_append]
          intro v3 D3 ho hg hnr
          have gb' := grown_new gb hg (fun k hk => (hA.lt k hk).1)
          refine hK _ _ (fun _ _ => NearC.of gb') ?_
          clear hK K gb
          have gb := gb'
          clear gb'
          have ne8' := near_ne hnr ne8 hX.lt
          have hX' := hX.grownR hg ne8
          clear hX ne8
          have hX := hX'
          have ne8 := ne8'
          clear hX' ne8'
          clear hA
          have hA := ho
          clear ho hg hnr gs
          have gs := grown_size gb
          obtain ⟨a3, c3, rfl, -, -⟩ := hA.slice
          refine mix_deed_lit 5 3 (by kernel_rfl) (by kernel_rfl) rfl (fun K hK => ?_)
          simp only [comesUp, List.getElem?_cons_succ, List.getElem?_cons_zero]
          refine if_mk rfl ?_
          go_simp
          obtain ⟨g5, D5, eg, en, hg, kg, lg, mg⟩ := alloc_facts D3 (.cells #[.string key, .string value, .int .i64 chain, .int .i64 size] 44)
          rw [en, eg]
          clear en eg
          have gb' := grown_trans gb kg
          refine hK _ _ (fun _ _ => NearC.of gb') ?_
          clear hK K gb
          have gb := gb'
          clear gb'
          have hA' := hA.below (grown_below kg (by simp) (Nat.le_refl _)) (Nat.le_refl _)
          have hX' := hX.grownR kg (by simp)
          have hE := row_new (E := eEnt) ⟨key, value, chain, size⟩ hg rfl
          have lt5 := mg
          have ne5 := fun e => Nat.lt_irrefl _ (Nat.lt_of_lt_of_le (hA.lt _ e).2 lg)
          clear hA
          have hA := hA'
          clear hA'
          clear hX
          have hX := hX'
          clear hX'
          clear gs
          have gs := grown_size gb
          clear hg kg lg mg
          refine mix_deed_lit 6 2 (by kernel_rfl) (by kernel_rfl) rfl (fun K hK => ?_)
          simp only [comesUp, List.getElem?_cons_succ, List.getElem?_cons_zero]
          refine if_mk rfl ?_
          refine step_append_near eEnt eEnt_ok (.tmp 18) (.tmp 20) rfl D.heap.size _ es rfl hA [⟨key, value, chain, size⟩] hE (by simp; omega) (by simp; omega) gs ?_
          intro v6 D6 ho hg hnr
          have gb' := grown_new gb hg (fun k hk => (hA.lt k hk).1)
          refine hK _ _ (fun _ _ => NearC.of gb') ?_
          clear hK K gb
          have gb := gb'
          clear gb'
          have ne8' := near_ne hnr ne8 hX.lt
          have hX' := hX.grownR hg ne8
          clear hX ne8
          have hX := hX'
          have ne8 := ne8'
          clear hX' ne8'
          clear hA
          have hA := ho
          clear ho hg hnr gs
          have gs := grown_size gb
          clear hE lt5
          rw [HES.out] at hA
          obtain ⟨a6, c6, rfl, -, -⟩ := hA.slice
          refine mix_reads_lit [7] 1 (by kernel_rfl) (by kernel_rfl) (by kernel_rfl) (by kernel_rfl) rfl (NearC.of gb) ?_
          simp only [pick, List.filterMap_cons, List.filterMap_nil, List.getElem?_cons_succ, List.getElem?_cons_zero]
          repeat (first | go_big_quiet_step (fail) | quiet_step (fail))
          refine wpQuiet_nil ?_
          have HFIN := Lib.hid (weighs_last gb hA hX ne8 lX)
          obtain ⟨x0, x1, x2, x3⟩ := hX.four
          obtain ⟨y0, y1, y2, y3⟩ := hX.four_free
          refine mix_deed_lit 9 0 (by kernel_rfl) (by kernel_rfl) rfl (fun K hK => ?_)
          simp only [comesUp, List.getElem?_cons_succ, List.getElem?_cons_zero]
          refine if_mk rfl ?_
          go_simp
          refine hK _ _ (fun _ _ => NearC.of HFIN.out.1) ?_
          clear hK K
          refine mix_done_lit (by kernel_rfl) ?_
          clear x0 x1 x2 x3 y0 y1 y2 y3 hA hX ne8 lX gb gs
          go_wp2_with fail
          go_meet
          exact ⟨g8, a6, c6, rfl, HFIN.out.back HDG.out HDS.out⟩
        · skip
          simp only [comesUp, List.getElem?_cons_succ, List.getElem?_cons_zero]
          refine if_mk rfl ?_
          go_simp
          obtain ⟨g5, D5, eg, en, hg, kg, lg, mg⟩ := alloc_facts D8 (.cells #[.string key, .string value, .int .i64 chain, .int .i64 size] 44)
          rw [en, eg]
          clear en eg
          have gb' := grown_trans gb kg
          refine hK _ _ (fun _ _ => NearC.of gb') ?_
          clear hK K gb
          have gb := gb'
          clear gb'
          have hA' := hA.below (grown_below kg (by simp) (Nat.le_refl _)) (Nat.le_refl _)
          have hX' := hX.grownR kg (by simp)
          have hE := row_new (E := eEnt) ⟨key, value, chain, size⟩ hg rfl
          have lt5 := mg
          have ne5 := fun e => Nat.lt_irrefl _ (Nat.lt_of_lt_of_le (hA.lt _ e).2 lg)
          clear hA
          have hA := hA'
          clear hA'
          clear hX
          have hX := hX'
          clear hX'
          clear gs
          have gs := grown_size gb
          clear hg kg lg mg
          refine mix_deed_lit 3 3 (by kernel_rfl) (by kernel_rfl) rfl (fun K hK => ?_)
          simp only [comesUp, List.getElem?_cons_succ, List.getElem?_cons_zero]
          refine if_mk rfl ?_
          refine step_append_near eEnt eEnt_ok (.tmp 15) (.tmp 17) rfl D.heap.size _ [] rfl hA es (hN.below (grown_below gb (by simp) (Nat.le_refl _))) (by simp; omega) (by simp; omega) gs ?_
          rw [List.nil_append]
          intro v3 D3 ho hg hnr
          have gb' := grown_new gb hg (fun k hk => (hA.lt k hk).1)
          refine hK _ _ (fun _ _ => NearC.of gb') ?_
          clear hK K gb
          have gb := gb'
          clear gb'
          have ne5' := near_ne hnr ne5 lt5
          have hE' := rowAt_grown hE hg ne5
          have lt5' := Nat.lt_of_lt_of_le lt5 (grown_size hg)
          clear hE lt5 ne5
          have hE := hE'
          have lt5 := lt5'
          have ne5 := ne5'
          clear hE' lt5' ne5'
          have ne8' := near_ne hnr ne8 hX.lt
          have hX' := hX.grownR hg ne8
          clear hX ne8
          have hX := hX'
          have ne8 := ne8'
          clear hX' ne8'
          clear hA
          have hA := ho
          clear ho hg hnr gs
          have gs := grown_size gb
          obtain ⟨a3, c3, rfl, -, -⟩ := hA.slice
          refine mix_deed_lit 6 2 (by kernel_rfl) (by kernel_rfl) rfl (fun K hK => ?_)
          simp only [comesUp, List.getElem?_cons_succ, List.getElem?_cons_zero]
          refine if_mk rfl ?_
          refine step_append_near eEnt eEnt_ok (.tmp 18) (.tmp 20) rfl D.heap.size _ es rfl hA [⟨key, value, chain, size⟩] hE (by simp; omega) (by simp; omega) gs ?_
          intro v6 D6 ho hg hnr
          have gb' := grown_new gb hg (fun k hk => (hA.lt k hk).1)
          refine hK _ _ (fun _ _ => NearC.of gb') ?_
          clear hK K gb
          have gb := gb'
          clear gb'
          have ne8' := near_ne hnr ne8 hX.lt
          have hX' := hX.grownR hg ne8
          clear hX ne8
          have hX := hX'
          have ne8 := ne8'
          clear hX' ne8'
          clear hA
          have hA := ho
          clear ho hg hnr gs
          have gs := grown_size gb
          clear hE lt5
          rw [HES.out] at hA
          obtain ⟨a6, c6, rfl, -, -⟩ := hA.slice
          refine mix_reads_lit [7] 1 (by kernel_rfl) (by kernel_rfl) (by kernel_rfl) (by kernel_rfl) rfl (NearC.of gb) ?_
          simp only [pick, List.filterMap_cons, List.filterMap_nil, List.getElem?_cons_succ, List.getElem?_cons_zero]
          repeat (first | go_big_quiet_step (fail) | quiet_step (fail))
          refine wpQuiet_nil ?_
          have HFIN := Lib.hid (weighs_last gb hA hX ne8 lX)
          obtain ⟨x0, x1, x2, x3⟩ := hX.four
          obtain ⟨y0, y1, y2, y3⟩ := hX.four_free
          refine mix_deed_lit 9 0 (by kernel_rfl) (by kernel_rfl) rfl (fun K hK => ?_)
          simp only [comesUp, List.getElem?_cons_succ, List.getElem?_cons_zero]
          refine if_mk rfl ?_
          go_simp
          refine hK _ _ (fun _ _ => NearC.of HFIN.out.1) ?_
          clear hK K
          refine mix_done_lit (by kernel_rfl) ?_
          clear x0 x1 x2 x3 y0 y1 y2 y3 hA hX ne8 lX gb gs
          go_wp2_with fail
          go_meet
          exact ⟨g8, a6, c6, rfl, HFIN.out.back HDG.out HDS.out⟩
    · skip
      simp only [comesUp, List.getElem?_cons_succ, List.getElem?_cons_zero]
      refine if_mk rfl ?_
      go_simp
      obtain ⟨g5, D5, eg, en, hg, kg, lg, mg⟩ := alloc_facts D (.cells #[.string key, .string value, .int .i64 chain, .int .i64 size] 44)
      rw [en, eg]
      clear en eg
      have gb' := grown_trans gb kg
      refine hK _ _ (fun _ _ => NearC.of gb') ?_
      clear hK K gb
      have gb := gb'
      clear gb'
      have hE := row_new (E := eEnt) ⟨key, value, chain, size⟩ hg rfl
      have lt5 := mg
      clear gs
      have gs := grown_size gb
      clear hg kg lg mg
      refine mix_two_lit 0 8 5 (by kernel_rfl) (by kernel_rfl) rfl (fun K hK => ?_) (fun K hK => ?_)
      · skip
        simp only [comesUp, List.getElem?_cons_succ, List.getElem?_cons_zero]
        refine if_mk rfl ?_
        go_simp
        obtain ⟨g0, D0, eg, en, hg, kg, lg, mg⟩ := alloc_facts D5 (.cells #[] 44)
        rw [en, eg]
        clear en eg
        have gb' := grown_trans gb kg
        refine hK _ _ (fun _ _ => NearC.of gb') ?_
        clear hK K gb
        have gb := gb'
        clear gb'
        have hE' := hE.below (grown_below kg (by simp) (Nat.le_refl _))
        have lt5' := Nat.lt_of_lt_of_le lt5 (grown_size kg)
        have ne5 : (Value.slice (some ⟨g0, 0, none⟩) 0 0).ownBlock ≠ some g5 := by simp [Value.ownBlock]; omega
        clear hE lt5
        have hE := hE'
        have lt5 := lt5'
        clear hE' lt5'
        have hA := ownR_new (E := eEnt) hg (Nat.le_trans gs lg)
        clear gs
        have gs := grown_size gb
        clear hg kg lg mg
        refine mix_two_lit 3 8 4 (by kernel_rfl) (by kernel_rfl) rfl (fun K hK => ?_) (fun K hK => ?_)
        · skip
          simp only [comesUp, List.getElem?_cons_succ, List.getElem?_cons_zero]
          refine if_mk rfl ?_
          refine step_append_near eEnt eEnt_ok (.tmp 15) (.tmp 17) rfl D.heap.size _ [] rfl hA es (hN.below (grown_below gb (by simp) (Nat.le_refl _))) (by simp; omega) (by simp; omega) gs ?_
          rw [List.nil_append]
          intro v3 D3 ho hg hnr
          have gb' := grown_new gb hg (fun k hk => (hA.lt k hk).1)
          refine hK _ _ (fun _ _ => NearC.of gb') ?_
          clear hK K gb
          have gb := gb'
          clear gb'
          have ne5' := near_ne hnr ne5 lt5
          have hE' := rowAt_grown hE hg ne5
          have lt5' := Nat.lt_of_lt_of_le lt5 (grown_size hg)
          clear hE lt5 ne5
          have hE := hE'
          have lt5 := lt5'
          have ne5 := ne5'
          clear hE' lt5' ne5'
          clear hA
          have hA := ho
          clear ho hg hnr gs
          have gs := grown_size gb
          obtain ⟨a3, c3, rfl, -, -⟩ := hA.slice
          refine mix_two_lit 6 8 3 (by kernel_rfl) (by kernel_rfl) rfl (fun K hK => ?_) (fun K hK => ?_)
          · skip
            simp only [comesUp, List.getElem?_cons_succ, List.getElem?_cons_zero]
            refine if_mk rfl ?_
            refine step_append_near eEnt eEnt_ok (.tmp 18) (.tmp 20) rfl D.heap.size _ es rfl hA [⟨key, value, chain, size⟩] hE (by simp; omega) (by simp; omega) gs ?_
            intro v6 D6 ho hg hnr
            have gb' := grown_new gb hg (fun k hk => (hA.lt k hk).1)
            refine hK _ _ (fun _ _ => NearC.of gb') ?_
            clear hK K gb
            have gb := gb'
            clear gb'
            clear hA
            have hA := ho
            clear ho hg hnr gs
            have gs := grown_size gb
            clear hE lt5
            rw [HES.out] at hA
            obtain ⟨a6, c6, rfl, -, -⟩ := hA.slice
            refine mix_reads_lit [7] 2 (by kernel_rfl) (by kernel_rfl) (by kernel_rfl) (by kernel_rfl) rfl (NearC.of gb) ?_
            simp only [pick, List.filterMap_cons, List.filterMap_nil, List.getElem?_cons_succ, List.getElem?_cons_zero]
            repeat (first | go_big_quiet_step (fail) | quiet_step (fail))
            refine wpQuiet_nil ?_
            refine mix_deed_lit 8 1 (by kernel_rfl) (by kernel_rfl) rfl (fun K hK => ?_)
            simp only [comesUp, List.getElem?_cons_succ, List.getElem?_cons_zero]
            refine if_mk rfl ?_
            go_simp
            obtain ⟨g8, D8, eg, en, hg, kg, lg, mg⟩ := alloc_facts D6 (.cells #[.bool false, .slice none 0 0, .slice none 0 0, .slice none 0 0] 26)
            rw [en, eg]
            clear en eg
            have gb' := grown_trans gb kg
            refine hK _ _ (fun _ _ => NearC.of gb') ?_
            clear hK K gb
            have gb := gb'
            clear gb'
            have hA' := hA.below (grown_below kg (by simp) (Nat.le_refl _)) (Nat.le_refl _)
            have hX := box_new [_, _, _, _] hg rfl
            have lX := Nat.le_trans gs lg
            have ne8 := fun e => Nat.lt_irrefl _ (Nat.lt_of_lt_of_le (hA.lt _ e).2 lg)
            clear hA
            have hA := hA'
            clear hA'
            clear gs
            have gs := grown_size gb
            clear hg kg lg mg
            have HFIN := Lib.hid (weighs_last gb hA hX ne8 lX)
            obtain ⟨x0, x1, x2, x3⟩ := hX.four
            obtain ⟨y0, y1, y2, y3⟩ := hX.four_free
            refine mix_deed_lit 9 0 (by kernel_rfl) (by kernel_rfl) rfl (fun K hK => ?_)
            simp only [comesUp, List.getElem?_cons_succ, List.getElem?_cons_zero]
            refine if_mk rfl ?_
            go_simp
            refine hK _ _ (fun _ _ => NearC.of HFIN.out.1) ?_
            clear hK K
            refine mix_done_lit (by kernel_rfl) ?_
            clear x0 x1 x2 x3 y0 y1 y2 y3 hA hX ne8 lX gb gs
            go_wp2_with fail
            go_meet
            exact ⟨g8, a6, c6, rfl, HFIN.out.back HDG.out HDS.out⟩
          · skip
            simp only [comesUp, List.getElem?_cons_succ, List.getElem?_cons_zero]
            refine if_mk rfl ?_
            go_simp
            obtain ⟨g8, D8, eg, en, hg, kg, lg, mg⟩ := alloc_facts D3 (.cells #[.bool false, .slice none 0 0, .slice none 0 0, .slice none 0 0] 26)
            rw [en, eg]
            clear en eg
            have gb' := grown_trans gb kg
            refine hK _ _ (fun _ _ => NearC.of gb') ?_
            clear hK K gb
            have gb := gb'
            clear gb'
            have hA' := hA.below (grown_below kg (by simp) (Nat.le_refl _)) (Nat.le_refl _)
            have hE' := hE.below (grown_below kg (by simp) (Nat.le_refl _))
            have lt5' := Nat.lt_of_lt_of_le lt5 (grown_size kg)
            have hX := box_new [_, _, _, _] hg rfl
            have lX := Nat.le_trans gs lg
            have ne8 := fun e => Nat.lt_irrefl _ (Nat.lt_of_lt_of_le (hA.lt _ e).2 lg)
            clear hA
            have hA := hA'
            clear hA'
            clear hE lt5
            have hE := hE'
            have lt5 := lt5'
            clear hE' lt5'
            clear gs
            have gs := grown_size gb
            clear hg kg lg mg
            refine mix_deed_lit 6 2 (by kernel_rfl) (by kernel_rfl) rfl (fun K hK => ?_)
            simp only [comesUp, List.getElem?_cons_succ, List.getElem?_cons_zero]
            refine if_mk rfl ?_
            refine step_append_near eEnt eEnt_ok (.tmp 18) (.tmp 20) rfl D.heap.size _ es rfl hA [⟨key, value, chain, size⟩] hE (by simp; omega) (by simp; omega) gs ?_
            intro v6 D6 ho hg hnr
            have gb' := grown_new gb hg (fun k hk => (hA.lt k hk).1)
            refine hK _ _ (fun _ _ => NearC.of gb') ?_
            clear hK K gb
            have gb := gb'
            clear gb'
            have ne8' := near_ne hnr ne8 hX.lt
            have hX' := hX.grownR hg ne8
            clear hX ne8
            have hX := hX'
            have ne8 := ne8'
            clear hX' ne8'
            clear hA
            have hA := ho
            clear ho hg hnr gs
            have gs := grown_size gb
            clear hE lt5
            rw [HES.out] at hA
            obtain ⟨a6, c6, rfl, -, -⟩ := hA.slice
            refine mix_reads_lit [7] 1 (by kernel_rfl) (by kernel_rfl) (by kernel_rfl) (by kernel_rfl) rfl (NearC.of gb) ?_
            simp only [pick, List.filterMap_cons, List.filterMap_nil, List.getElem?_cons_succ, List.getElem?_cons_zero]
            repeat (first | go_big_quiet_step (fail) | quiet_step (fail))
            refine wpQuiet_nil ?_
            have HFIN := Lib.hid (weighs_last gb hA hX ne8 lX)
            obtain ⟨x0, x1, x2, x3⟩ := hX.four
            obtain ⟨y0, y1, y2, y3⟩ := hX.four_free
            refine mix_deed_lit 9 0 (by kernel_rfl) (by kernel_rfl) rfl (fun K hK => ?_)
            simp only [comesUp, List.getElem?_cons_succ, List.getElem?_cons_zero]
            refine if_mk rfl ?_
            go_simp
            refine hK _ _ (fun _ _ => NearC.of HFIN.out.1) ?_
            clear hK K
            refine mix_done_lit (by kernel_rfl) ?_
            clear x0 x1 x2 x3 y0 y1 y2 y3 hA hX ne8 lX gb gs
            go_wp2_with fail
            go_meet
            exact ⟨g8, a6, c6, rfl, HFIN.out.back HDG.out HDS.out⟩
        · skip
          simp only [comesUp, List.getElem?_cons_succ, List.getElem?_cons_zero]
          refine if_mk rfl ?_
          go_simp
          obtain ⟨g8, D8, eg, en, hg, kg, lg, mg⟩ := alloc_facts D0 (.cells #[.bool false, .slice none 0 0, .slice none 0 0, .slice none 0 0] 26)
          rw [en, eg]
          clear en eg
          have gb' := grown_trans gb kg
          refine hK _ _ (fun _ _ => NearC.of gb') ?_
          clear hK K gb
          have gb := gb'
          clear gb'
          have hA' := hA.below (grown_below kg (by simp) (Nat.le_refl _)) (Nat.le_refl _)
          have hE' := hE.below (grown_below kg (by simp) (Nat.le_refl _))
          have lt5' := Nat.lt_of_lt_of_le lt5 (grown_size kg)
          have hX := box_new [_, _, _, _] hg rfl
          have lX := Nat.le_trans gs lg
          have ne8 := fun e => Nat.lt_irrefl _ (Nat.lt_of_lt_of_le (hA.lt _ e).2 lg)
          clear hA
          have hA := hA'
          clear hA'
          clear hE lt5
          have hE := hE'
          have lt5 := lt5'
          clear hE' lt5'
          clear gs
          have gs := grown_size gb
          clear hg kg lg mg
          refine mix_deed_lit 3 3 (by kernel_rfl) (by kernel_rfl) rfl (fun K hK => ?_)
          simp only [comesUp, List.getElem?_cons_succ, List.getElem?_cons_zero]
          refine if_mk rfl ?_
          refine step_append_near eEnt eEnt_ok (.tmp 15) (.tmp 17) rfl D.heap.size _ [] rfl hA es (hN.below (grown_below gb (by simp) (Nat.le_refl _))) (by simp; omega) (by simp; omega) gs ?_
          rw [List.nil_append]
          intro v3 D3 ho hg hnr
          have gb' := grown_new gb hg (fun k hk => (hA.lt k hk).1)
          refine hK _ _ (fun _ _ => NearC.of gb') ?_
          clear hK K gb
          have gb := gb'
          clear gb'
          have ne5' := near_ne hnr ne5 lt5
          have hE' := rowAt_grown hE hg ne5
          have lt5' := Nat.lt_of_lt_of_le lt5 (grown_size hg)
          clear hE lt5 ne5
          have hE := hE'
          have lt5 := lt5'
          have ne5 := ne5'
          clear hE' lt5' ne5'
          have ne8' := near_ne hnr ne8 hX.lt
          have hX' := hX.grownR hg ne8
          clear hX ne8
          have hX := hX'
          have ne8 := ne8'
          clear hX' ne8'
          clear hA
          have hA := ho
          clear ho hg hnr gs
          have gs := grown_size gb
          obtain ⟨a3, c3, rfl, -, -⟩ := hA.slice
          refine mix_deed_lit 6 2 (by kernel_rfl) (by kernel_rfl) rfl (fun K hK => ?_)
          simp only [comesUp, List.getElem?_cons_succ, List.getElem?_cons_zero]
          refine if_mk rfl ?_
          refine step_append_near eEnt eEnt_ok (.tmp 18) (.tmp 20) rfl D.heap.size _ es rfl hA [⟨key, value, chain, size⟩] hE (by simp; omega) (by simp; omega) gs ?_
          intro v6 D6 ho hg hnr
          have gb' := grown_new gb hg (fun k hk => (hA.lt k hk).1)
          refine hK _ _ (fun _ _ => NearC.of gb') ?_
          clear hK K gb
          have gb := gb'
          clear gb'
          have ne8' := near_ne hnr ne8 hX.lt
          have hX' := hX.grownR hg ne8
          clear hX ne8
          have hX := hX'
          have ne8 := ne8'
          clear hX' ne8'
          clear hA
          have hA := ho
          clear ho hg hnr gs
          have gs := grown_size gb
          clear hE lt5
          rw [HES.out] at hA
          obtain ⟨a6, c6, rfl, -, -⟩ := hA.slice
          refine mix_reads_lit [7] 1 (by kernel_rfl) (by kernel_rfl) (by kernel_rfl) (by kernel_rfl) rfl (NearC.of gb) ?_
          simp only [pick, List.filterMap_cons, List.filterMap_nil, List.getElem?_cons_succ, List.getElem?_cons_zero]
          repeat (first | go_big_quiet_step (fail) | quiet_step (fail))
          refine wpQuiet_nil ?_
          have HFIN := Lib.hid (weighs_last gb hA hX ne8 lX)
          obtain ⟨x0, x1, x2, x3⟩ := hX.four
          obtain ⟨y0, y1, y2, y3⟩ := hX.four_free
          refine mix_deed_lit 9 0 (by kernel_rfl) (by kernel_rfl) rfl (fun K hK => ?_)
          simp only [comesUp, List.getElem?_cons_succ, List.getElem?_cons_zero]
          refine if_mk rfl ?_
          go_simp
          refine hK _ _ (fun _ _ => NearC.of HFIN.out.1) ?_
          clear hK K
          refine mix_done_lit (by kernel_rfl) ?_
          clear x0 x1 x2 x3 y0 y1 y2 y3 hA hX ne8 lX gb gs
          go_wp2_with fail
          go_meet
          exact ⟨g8, a6, c6, rfl, HFIN.out.back HDG.out HDS.out⟩
      · skip
        simp only [comesUp, List.getElem?_cons_succ, List.getElem?_cons_zero]
        refine if_mk rfl ?_
        go_simp
        obtain ⟨g8, D8, eg, en, hg, kg, lg, mg⟩ := alloc_facts D5 (.cells #[.bool false, .slice none 0 0, .slice none 0 0, .slice none 0 0] 26)
        rw [en, eg]
        clear en eg
        have gb' := grown_trans gb kg
        refine hK _ _ (fun _ _ => NearC.of gb') ?_
        clear hK K gb
        have gb := gb'
        clear gb'
        have hE' := hE.below (grown_below kg (by simp) (Nat.le_refl _))
        have lt5' := Nat.lt_of_lt_of_le lt5 (grown_size kg)
        have hX := box_new [_, _, _, _] hg rfl
        have lX := Nat.le_trans gs lg
        clear hE lt5
        have hE := hE'
        have lt5 := lt5'
        clear hE' lt5'
        clear gs
        have gs := grown_size gb
        clear hg kg lg mg
        refine mix_deed_lit 0 4 (by kernel_rfl) (by kernel_rfl) rfl (fun K hK => ?_)
        simp only [comesUp, List.getElem?_cons_succ, List.getElem?_cons_zero]
        refine if_mk rfl ?_
        go_simp
        obtain ⟨g0, D0, eg, en, hg, kg, lg, mg⟩ := alloc_facts D8 (.cells #[] 44)
        rw [en, eg]
        clear en eg
        have gb' := grown_trans gb kg
        refine hK _ _ (fun _ _ => NearC.of gb') ?_
        clear hK K gb
        have gb := gb'
        clear gb'
        have hE' := hE.below (grown_below kg (by simp) (Nat.le_refl _))
        have lt5' := Nat.lt_of_lt_of_le lt5 (grown_size kg)
        have hX' := hX.grownR kg (by simp)
        have ne5 : (Value.slice (some ⟨g0, 0, none⟩) 0 0).ownBlock ≠ some g5 := by simp [Value.ownBlock]; omega
        have ne8 : (Value.slice (some ⟨g0, 0, none⟩) 0 0).ownBlock ≠ some g8 := by simp [Value.ownBlock]; have := hX.lt; omega
        clear hE lt5
        have hE := hE'
        have lt5 := lt5'
        clear hE' lt5'
        clear hX
        have hX := hX'
        clear hX'
        have hA := ownR_new (E := eEnt) hg (Nat.le_trans gs lg)
        clear gs
        have gs := grown_size gb
        clear hg kg lg mg
        refine mix_deed_lit 3 3 (by kernel_rfl) (by kernel_rfl) rfl (fun K hK => ?_)
        simp only [comesUp, List.getElem?_cons_succ, List.getElem?_cons_zero]
        refine if_mk rfl ?_
        refine step_append_near eEnt eEnt_ok (.tmp 15) (.tmp 17) rfl D.heap.size _ [] rfl hA es (hN.below (grown_below gb (by simp) (Nat.le_refl _))) (by simp; omega) (by simp; omega) gs ?_
        rw [List.nil_append]
        intro v3 D3 ho hg hnr
        have gb' := grown_new gb hg (fun k hk => (hA.lt k hk).1)
        refine hK _ _ (fun _ _ => NearC.of gb') ?_
        clear hK K gb
        have gb := gb'
        clear gb'
        have ne5' := near_ne hnr ne5 lt5
        have hE' := rowAt_grown hE hg ne5
        have lt5' := Nat.lt_of_lt_of_le lt5 (grown_size hg)
        clear hE lt5 ne5
        have hE := hE'
        have lt5 := lt5'
        have ne5 := ne5'
        clear hE' lt5' ne5'
        have ne8' := near_ne hnr ne8 hX.lt
        have hX' := hX.grownR hg ne8
        clear hX ne8
        have hX := hX'
        have ne8 := ne8'
        clear hX' ne8'
        clear hA
        have hA := ho
        clear ho hg hnr gs
        have gs := grown_size gb
        obtain ⟨a3, c3, rfl, -, -⟩ := hA.slice
        refine mix_deed_lit 6 2 (by kernel_rfl) (by kernel_rfl) rfl (fun K hK => ?_)
        simp only [comesUp, List.getElem?_cons_succ, List.getElem?_cons_zero]
        refine if_mk rfl ?_
        refine step_append_near eEnt eEnt_ok (.tmp 18) (.tmp 20) rfl D.heap.size _ es rfl hA [⟨key, value, chain, size⟩] hE (by simp; omega) (by simp; omega) gs ?_
        intro v6 D6 ho hg hnr
        have gb' := grown_new gb hg (fun k hk => (hA.lt k hk).1)
        refine hK _ _ (fun _ _ => NearC.of gb') ?_
        clear hK K gb
        have gb := gb'
        clear gb'
        have ne8' := near_ne hnr ne8 hX.lt
        have hX' := hX.grownR hg ne8
        clear hX ne8
        have hX := hX'
        have ne8 := ne8'
        clear hX' ne8'
        clear hA
        have hA := ho
        clear ho hg hnr gs
        have gs := grown_size gb
        clear hE lt5
        rw [HES.out] at hA
        obtain ⟨a6, c6, rfl, -, -⟩ := hA.slice
        refine mix_reads_lit [7] 1 (by kernel_rfl) (by kernel_rfl) (by kernel_rfl) (by kernel_rfl) rfl (NearC.of gb) ?_
        simp only [pick, List.filterMap_cons, List.filterMap_nil, List.getElem?_cons_succ, List.getElem?_cons_zero]
        repeat (first | go_big_quiet_step (fail) | quiet_step (fail))
        refine wpQuiet_nil ?_
        have HFIN := Lib.hid (weighs_last gb hA hX ne8 lX)
        obtain ⟨x0, x1, x2, x3⟩ := hX.four
        obtain ⟨y0, y1, y2, y3⟩ := hX.four_free
        refine mix_deed_lit 9 0 (by kernel_rfl) (by kernel_rfl) rfl (fun K hK => ?_)
        simp only [comesUp, List.getElem?_cons_succ, List.getElem?_cons_zero]
        refine if_mk rfl ?_
        go_simp
        refine hK _ _ (fun _ _ => NearC.of HFIN.out.1) ?_
        clear hK K
        refine mix_done_lit (by kernel_rfl) ?_
        clear x0 x1 x2 x3 y0 y1 y2 y3 hA hX ne8 lX gb gs
        go_wp2_with fail
        go_meet
        exact ⟨g8, a6, c6, rfl, HFIN.out.back HDG.out HDS.out⟩
    · skip
      simp only [comesUp, List.getElem?_cons_succ, List.getElem?_cons_zero]
      refine if_mk rfl ?_
      go_simp
      obtain ⟨g8, D8, eg, en, hg, kg, lg, mg⟩ := alloc_facts D (.cells #[.bool false, .slice none 0 0, .slice none 0 0, .slice none 0 0] 26)
      rw [en, eg]
      clear en eg
      have gb' := grown_trans gb kg
      refine hK _ _ (fun _ _ => NearC.of gb') ?_
      clear hK K gb
      have gb := gb'
      clear gb'
      have hX := box_new [_, _, _, _] hg rfl
      have lX := Nat.le_trans gs lg
      clear gs
      have gs := grown_size gb
      clear hg kg lg mg
      refine mix_two_lit 0 5 5 (by kernel_rfl) (by kernel_rfl) rfl (fun K hK => ?_) (fun K hK => ?_)
      · skip
        simp only [comesUp, List.getElem?_cons_succ, List.getElem?_cons_zero]
        refine if_mk rfl ?_
        go_simp
        obtain ⟨g0, D0, eg, en, hg, kg, lg, mg⟩ := alloc_facts D8 (.cells #[] 44)
        rw [en, eg]
        clear en eg
        have gb' := grown_trans gb kg
        refine hK _ _ (fun _ _ => NearC.of gb') ?_
        clear hK K gb
        have gb := gb'
        clear gb'
        have hX' := hX.grownR kg (by simp)
        have ne8 : (Value.slice (some ⟨g0, 0, none⟩) 0 0).ownBlock ≠ some g8 := by simp [Value.ownBlock]; have := hX.lt; omega
        clear hX
        have hX := hX'
        clear hX'
        have hA := ownR_new (E := eEnt) hg (Nat.le_trans gs lg)
        clear gs
        have gs := grown_size gb
        clear hg kg lg mg
        refine mix_two_lit 3 5 4 (by kernel_rfl) (by kernel_rfl) rfl (fun K hK => ?_) (fun K hK => ?_)
        · skip
          simp only [comesUp, List.getElem?_cons_succ, List.getElem?_cons_zero]
          refine if_mk rfl ?_
          refine step_append_near eEnt eEnt_ok (.tmp 15) (.tmp 17) rfl D.heap.size _ [] rfl hA es (hN.below (grown_below gb (by simp) (Nat.le_refl _))) (by simp; omega) (by simp; omega) gs ?_
          rw [List.nil_append]
          intro v3 D3 ho hg hnr
          have gb' := grown_new gb hg (fun k hk => (hA.lt k hk).1)
          refine hK _ _ (fun _ _ => NearC.of gb') ?_
          clear hK K gb
          have gb := gb'
          clear gb'
          have ne8' := near_ne hnr ne8 hX.lt
          have hX' := hX.grownR hg ne8
          clear hX ne8
          have hX := hX'
          have ne8 := ne8'
          clear hX' ne8'
          clear hA
          have hA := ho
          clear ho hg hnr gs
          have gs := grown_size gb
          obtain ⟨a3, c3, rfl, -, -⟩ := hA.slice
          refine mix_deed_lit 5 3 (by kernel_rfl) (by kernel_rfl) rfl (fun K hK => ?_)
          simp only [comesUp, List.getElem?_cons_succ, List.getElem?_cons_zero]
          refine if_mk rfl ?_
          go_simp
          obtain ⟨g5, D5, eg, en, hg, kg, lg, mg⟩ := alloc_facts D3 (.cells #[.string key, .string value, .int .i64 chain, .int .i64 size] 44)
          rw [en, eg]
          clear en eg
          have gb' := grown_trans gb kg
          refine hK _ _ (fun _ _ => NearC.of gb') ?_
          clear hK K gb
          have gb := gb'
          clear gb'
          have hA' := hA.below (grown_below kg (by simp) (Nat.le_refl _)) (Nat.le_refl _)
          have hX' := hX.grownR kg (by simp)
          have hE := row_new (E := eEnt) ⟨key, value, chain, size⟩ hg rfl
          have lt5 := mg
          have ne5 := fun e => Nat.lt_irrefl _ (Nat.lt_of_lt_of_le (hA.lt _ e).2 lg)
          clear hA
          have hA := hA'
          clear hA'
          clear hX
          have hX := hX'
          clear hX'
          clear gs
          have gs := grown_size gb
          clear hg kg lg mg
          refine mix_deed_lit 6 2 (by kernel_rfl) (by kernel_rfl) rfl (fun K hK => ?_)
          simp only [comesUp, List.getElem?_cons_succ, List.getElem?_cons_zero]
          refine if_mk rfl ?_
          refine step_append_near eEnt eEnt_ok (.tmp 18) (.tmp 20) rfl D.heap.size _ es rfl hA [⟨key, value, chain, size⟩] hE (by simp; omega) (by simp; omega) gs ?_
          intro v6 D6 ho hg hnr
          have gb' := grown_new gb hg (fun k hk => (hA.lt k hk).1)
          refine hK _ _ (fun _ _ => NearC.of gb') ?_
          clear hK K gb
          have gb := gb'
          clear gb'
          have ne8' := near_ne hnr ne8 hX.lt
          have hX' := hX.grownR hg ne8
          clear hX ne8
          have hX := hX'
          have ne8 := ne8'
          clear hX' ne8'
          clear hA
          have hA := ho
          clear ho hg hnr gs
          have gs := grown_size gb
          clear hE lt5
          rw [HES.out] at hA
          obtain ⟨a6, c6, rfl, -, -⟩ := hA.slice
          refine mix_reads_lit [7] 1 (by kernel_rfl) (by kernel_rfl) (by kernel_rfl) (by kernel_rfl) rfl (NearC.of gb) ?_
          simp only [pick, List.filterMap_cons, List.filterMap_nil, List.getElem?_cons_succ, List.getElem?_cons_zero]
          repeat (first | go_big_quiet_step (fail) | quiet_step (fail))
          refine wpQuiet_nil ?_
          have HFIN := Lib.hid (weighs_last gb hA hX ne8 lX)
          obtain ⟨x0, x1, x2, x3⟩ := hX.four
          obtain ⟨y0, y1, y2, y3⟩ := hX.four_free
          refine mix_deed_lit 9 0 (by kernel_rfl) (by kernel_rfl) rfl (fun K hK => ?_)
          simp only [comesUp, List.getElem?_cons_succ, List.getElem?_cons_zero]
          refine if_mk rfl ?_
          go_simp
          refine hK _ _ (fun _ _ => NearC.of HFIN.out.1) ?_
          clear hK K
          refine mix_done_lit (by kernel_rfl) ?_
          clear x0 x1 x2 x3 y0 y1 y2 y3 hA hX ne8 lX gb gs
          go_wp2_with fail
          go_meet
          exact ⟨g8, a6, c6, rfl, HFIN.out.back HDG.out HDS.out⟩
        · skip
          simp only [comesUp, List.getElem?_cons_succ, List.getElem?_cons_zero]
          refine if_mk rfl ?_
          go_simp
          obtain ⟨g5, D5, eg, en, hg, kg, lg, mg⟩ := alloc_facts D0 (.cells #[.string key, .string value, .int .i64 chain, .int .i64 size] 44)
          rw [en, eg]
          clear en eg
          have gb' := grown_trans gb kg
          refine hK _ _ (fun _ _ => NearC.of gb') ?_
          clear hK K gb
          have gb := gb'
          clear gb'
          have hA' := hA.below (grown_below kg (by simp) (Nat.le_refl _)) (Nat.le_refl _)
          have hX' := hX.grownR kg (by simp)
          have hE := row_new (E := eEnt) ⟨key, value, chain, size⟩ hg rfl
          have lt5 := mg
          have ne5 := fun e => Nat.lt_irrefl _ (Nat.lt_of_lt_of_le (hA.lt _ e).2 lg)
          clear hA
          have hA := hA'
          clear hA'
          clear hX
          have hX := hX'
          clear hX'
          clear gs
          have gs := grown_size gb
          clear hg kg lg mg
          refine mix_deed_lit 3 3 (by kernel_rfl) (by kernel_rfl) rfl (fun K hK => ?_)
          simp only [comesUp, List.getElem?_cons_succ, List.getElem?_cons_zero]
          refine if_mk rfl ?_
          refine step_append_near eEnt eEnt_ok (.tmp 15) (.tmp 17) rfl D.heap.size _ [] rfl hA es (hN.below (grown_below gb (by simp) (Nat.le_refl _))) (by simp; omega) (by simp; omega) gs ?_
          rw [List.nil_append]
          intro v3 D3 ho hg hnr
          have gb' := grown_new gb hg (fun k hk => (hA.lt k hk).1)
          refine hK _ _ (fun _ _ => NearC.of gb') ?_
          clear hK K gb
          have gb := gb'
          clear gb'
          have ne5' := near_ne hnr ne5 lt5
          have hE' := rowAt_grown hE hg ne5
          have lt5' := Nat.lt_of_lt_of_le lt5 (grown_size hg)
          clear hE lt5 ne5
          have hE := hE'
          have lt5 := lt5'
          have ne5 := ne5'
          clear hE' lt5' ne5'
          have ne8' := near_ne hnr ne8 hX.lt
          have hX' := hX.grownR hg ne8
          clear hX ne8
          have hX := hX'
          have ne8 := ne8'
          clear hX' ne8'
          clear hA
          have hA := ho
          clear ho hg hnr gs
          have gs := grown_size gb
          obtain ⟨a3, c3, rfl, -, -⟩ := hA.slice
          refine mix_deed_lit 6 2 (by kernel_rfl) (by kernel_rfl) rfl (fun K hK => ?_)
          simp only [comesUp, List.getElem?_cons_succ, List.getElem?_cons_zero]
          refine if_mk rfl ?_
          refine step_append_near eEnt eEnt_ok (.tmp 18) (.tmp 20) rfl D.heap.size _ es rfl hA [⟨key, value, chain, size⟩] hE (by simp; omega) (by simp; omega) gs ?_
          intro v6 D6 ho hg hnr
          have gb' := grown_new gb hg (fun k hk => (hA.lt k hk).1)
          refine hK _ _ (fun _ _ => NearC.of gb') ?_
          clear hK K gb
          have gb := gb'
          clear gb'
          have ne8' := near_ne hnr ne8 hX.lt
          have hX' := hX.grownR hg ne8
          clear hX ne8
          have hX := hX'
          have ne8 := ne8'
          clear hX' ne8'
          clear hA
          have hA := ho
          clear ho hg hnr gs
          have gs := grown_size gb
          clear hE lt5
          rw [HES.out] at hA
          obtain ⟨a6, c6, rfl, -, -⟩ := hA.slice
          refine mix_reads_lit [7] 1 (by kernel_rfl) (by kernel_rfl) (by kernel_rfl) (by kernel_rfl) rfl (NearC.of gb) ?_
          simp only [pick, List.filterMap_cons, List.filterMap_nil, List.getElem?_cons_succ, List.getElem?_cons_zero]
          repeat (first | go_big_quiet_step (fail) | quiet_step (fail))
          refine wpQuiet_nil ?_
          have HFIN := Lib.hid (weighs_last gb hA hX ne8 lX)
          obtain ⟨x0, x1, x2, x3⟩ := hX.four
          obtain ⟨y0, y1, y2, y3⟩ := hX.four_free
          refine mix_deed_lit 9 0 (by kernel_rfl) (by kernel_rfl) rfl (fun K hK => ?_)
          simp only [comesUp, List.getElem?_cons_succ, List.getElem?_cons_zero]
          refine if_mk rfl ?_
          go_simp
          refine hK _ _ (fun _ _ => NearC.of HFIN.out.1) ?_
          clear hK K
          refine mix_done_lit (by kernel_rfl) ?_
          clear x0 x1 x2 x3 y0 y1 y2 y3 hA hX ne8 lX gb gs
          go_wp2_with fail
          go_meet
          exact ⟨g8, a6, c6, rfl, HFIN.out.back HDG.out HDS.out⟩
      · skip
        simp only [comesUp, List.getElem?_cons_succ, List.getElem?_cons_zero]
        refine if_mk rfl ?_
        go_simp
        obtain ⟨g5, D5, eg, en, hg, kg, lg, mg⟩ := alloc_facts D8 (.cells #[.string key, .string value, .int .i64 chain, .int .i64 size] 44)
        rw [en, eg]
        clear en eg
        have gb' := grown_trans gb kg
        refine hK _ _ (fun _ _ => NearC.of gb') ?_
        clear hK K gb
        have gb := gb'
        clear gb'
        have hX' := hX.grownR kg (by simp)
        have hE := row_new (E := eEnt) ⟨key, value, chain, size⟩ hg rfl
        have lt5 := mg
        clear hX
        have hX := hX'
        clear hX'
        clear gs
        have gs := grown_size gb
        clear hg kg lg mg
        refine mix_deed_lit 0 4 (by kernel_rfl) (by kernel_rfl) rfl (fun K hK => ?_)
        simp only [comesUp, List.getElem?_cons_succ, List.getElem?_cons_zero]
        refine if_mk rfl ?_
        go_simp
        obtain ⟨g0, D0, eg, en, hg, kg, lg, mg⟩ := alloc_facts D5 (.cells #[] 44)
        rw [en, eg]
        clear en eg
        have gb' := grown_trans gb kg
        refine hK _ _ (fun _ _ => NearC.of gb') ?_
        clear hK K gb
        have gb := gb'
        clear gb'
        have hE' := hE.below (grown_below kg (by simp) (Nat.le_refl _))
        have lt5' := Nat.lt_of_lt_of_le lt5 (grown_size kg)
        have hX' := hX.grownR kg (by simp)
        have ne5 : (Value.slice (some ⟨g0, 0, none⟩) 0 0).ownBlock ≠ some g5 := by simp [Value.ownBlock]; omega
        have ne8 : (Value.slice (some ⟨g0, 0, none⟩) 0 0).ownBlock ≠ some g8 := by simp [Value.ownBlock]; have := hX.lt; omega
        clear hE lt5
        have hE := hE'
        have lt5 := lt5'
        clear hE' lt5'
        clear hX
        have hX := hX'
        clear hX'
        have hA := ownR_new (E := eEnt) hg (Nat.le_trans gs lg)
        clear gs
        have gs := grown_size gb
        clear hg kg lg mg
        refine mix_deed_lit 3 3 (by kernel_rfl) (by kernel_rfl) rfl (fun K hK => ?_)
        simp only [comesUp, List.getElem?_cons_succ, List.getElem?_cons_zero]
        refine if_mk rfl ?_
        refine step_append_near eEnt eEnt_ok (.tmp 15) (.tmp 17) rfl D.heap.size _ [] rfl hA es (hN.below (grown_below gb (by simp) (Nat.le_refl _))) (by simp; omega) (by simp; omega) gs ?_
        rw [List.nil_append]
        intro v3 D3 ho hg hnr
        have gb' := grown_new gb hg (fun k hk => (hA.lt k hk).1)
        refine hK _ _ (fun _ _ => NearC.of gb') ?_
        clear hK K gb
        have gb := gb'
        clear gb'
        have ne5' := near_ne hnr ne5 lt5
        have hE' := rowAt_grown hE hg ne5
        have lt5' := Nat.lt_of_lt_of_le lt5 (grown_size hg)
        clear hE lt5 ne5
        have hE := hE'
        have lt5 := lt5'
        have ne5 := ne5'
        clear hE' lt5' ne5'
        have ne8' := near_ne hnr ne8 hX.lt
        have hX' := hX.grownR hg ne8
        clear hX ne8
        have hX := hX'
        have ne8 := ne8'
        clear hX' ne8'
        clear hA
        have hA := ho
        clear ho hg hnr gs
        have gs := grown_size gb
        obtain ⟨a3, c3, rfl, -, -⟩ := hA.slice
        refine mix_deed_lit 6 2 (by kernel_rfl) (by kernel_rfl) rfl (fun K hK => ?_)
        simp only [comesUp, List.getElem?_cons_succ, List.getElem?_cons_zero]
        refine if_mk rfl ?_
        refine step_append_near eEnt eEnt_ok (.tmp 18) (.tmp 20) rfl D.heap.size _ es rfl hA [⟨key, value, chain, size⟩] hE (by simp; omega) (by simp; omega) gs ?_
        intro v6 D6 ho hg hnr
        have gb' := grown_new gb hg (fun k hk => (hA.lt k hk).1)
        refine hK _ _ (fun _ _ => NearC.of gb') ?_
        clear hK K gb
        have gb := gb'
        clear gb'
        have ne8' := near_ne hnr ne8 hX.lt
        have hX' := hX.grownR hg ne8
        clear hX ne8
        have hX := hX'
        have ne8 := ne8'
        clear hX' ne8'
        clear hA
        have hA := ho
        clear ho hg hnr gs
        have gs := grown_size gb
        clear hE lt5
        rw [HES.out] at hA
        obtain ⟨a6, c6, rfl, -, -⟩ := hA.slice
        refine mix_reads_lit [7] 1 (by kernel_rfl) (by kernel_rfl) (by kernel_rfl) (by kernel_rfl) rfl (NearC.of gb) ?_
        simp only [pick, List.filterMap_cons, List.filterMap_nil, List.getElem?_cons_succ, List.getElem?_cons_zero]
        repeat (first | go_big_quiet_step (fail) | quiet_step (fail))
        refine wpQuiet_nil ?_
        have HFIN := Lib.hid (weighs_last gb hA hX ne8 lX)
        obtain ⟨x0, x1, x2, x3⟩ := hX.four
        obtain ⟨y0, y1, y2, y3⟩ := hX.four_free
        refine mix_deed_lit 9 0 (by kernel_rfl) (by kernel_rfl) rfl (fun K hK => ?_)
        simp only [comesUp, List.getElem?_cons_succ, List.getElem?_cons_zero]
        refine if_mk rfl ?_
        go_simp
        refine hK _ _ (fun _ _ => NearC.of HFIN.out.1) ?_
        clear hK K
        refine mix_done_lit (by kernel_rfl) ?_
        clear x0 x1 x2 x3 y0 y1 y2 y3 hA hX ne8 lX gb gs
        go_wp2_with fail
        go_meet
        exact ⟨g8, a6, c6, rfl, HFIN.out.back HDG.out HDS.out⟩
  case rest =>
  obtain ⟨g8, a6, c6, rfl, hm⟩ := hcut
  obtain ⟨wx, hwx⟩ : ∃ x, x = wc := ⟨_, rfl⟩
  subst hwx
  have HBx := Lib.hid (below_step HB1.out (grown_below hm.1 (by simp) (Nat.le_refl _)))
  have HXx := Lib.hid (HX1.out.grownR hm.1 (by simp))
  have HGx := Lib.hid hm.2.1
  have HRx := Lib.hid (hm.2.2.at eEnt_ok)
  clear hm
  obtain ⟨m0, m1, m2, m3⟩ := HXx.out.four
  obtain ⟨n0, n1, n2, n3⟩ := HGx.out.four
  have z1 : es.length ≤ 1000000 := by omega
  have z2 : ks.length ≤ 1000000 := by omega
  have z3 : ki.length ≤ 1000000 := by omega
  have z4 : es'.length ≤ 1000000 := by omega
  cases hn : nodeB true es ks ki with
  | false =>
    have HN := Lib.hid hn
    clear hn
    go_wp2_with (first
      | (go_at_call 24; (refine (refRight_is true es ks ki false HN.out _ _ _ _ _ _ _ (H1.out.below HBx.out) (H2.out.below HBx.out) (H3.out.below HBx.out) z1 z2 z3).mono ?_); (rintro e w3 ⟨rfl, hb3⟩); (have HB3 := Lib.hid (below_step HBx.out hb3)); (have HX3 := Lib.hid (HXx.out.below hb3)); (clear hb3 m0 m1 m2 m3 n0 n1 n2 n3))
      | (go_at_call 15; (refine (awake7_any _ A (HS.out.below HB3.out)).mono ?_); (rintro e w4 ⟨rfl, hb4⟩); (have HB4 := Lib.hid (below_step HB3.out hb4)); (clear hb4)))
    go_ret
    exact ⟨rfl, HB4.out⟩
  | true =>
  have HN := Lib.hid hn
  clear hn
  cases hn' : nodeB true es' [] [] with
  | false =>
    have HM := Lib.hid hn'
    clear hn'
    go_wp2_with (first
      | (go_at_call 15; (refine (awake7_any _ A (HS.out.below HB4.out)).mono ?_); (rintro e w5 ⟨rfl, hb5⟩); (have HB5 := Lib.hid (below_step HB4.out hb5)); (clear hb5))
      | (go_at_call 24; (refine (refRight_is true es' [] [] false HM.out _ _ _ _ _ _ _ HR3.out (RowAt.nil _ _) (IntsAt.nil _) z4 (by decide) (by decide)).mono ?_); (rintro e w4 ⟨rfl, hb4⟩); (have HB4 := Lib.hid (below_step HB3.out hb4)); (clear hb4 m0 m1 m2 m3 n0 n1 n2 n3))
      | (go_at_call 24; (refine (refRight_is true es ks ki true HN.out _ _ _ _ _ _ _ (H1.out.below HBx.out) (H2.out.below HBx.out) (H3.out.below HBx.out) z1 z2 z3).mono ?_); (rintro e w3 ⟨rfl, hb3⟩); (have HB3 := Lib.hid (below_step HBx.out hb3)); (have HX3 := Lib.hid (HXx.out.below hb3)); (have HG3 := Lib.hid (HGx.out.below hb3)); (have HR3 := Lib.hid (HRx.out.below hb3)); (clear hb3 m0 m1 m2 m3 n0 n1 n2 n3); (obtain ⟨m0, m1, m2, m3⟩ := HX3.out.four); (obtain ⟨n0, n1, n2, n3⟩ := HG3.out.four)))
    go_ret
    exact ⟨rfl, HB5.out⟩
  | true =>
  have HM := Lib.hid hn'
  clear hn'
  obtain ⟨L, hL⟩ : ∃ L, nodeL true es ks ki = L := ⟨_, rfl⟩
  obtain ⟨L', hL'⟩ : ∃ L, nodeL true es' [] [] = L := ⟨_, rfl⟩
  have HLL := Lib.hid hL
  have HLM := Lib.hid hL'
  clear hL hL'
  go_upto_region 6 with (first
      | (go_at_call 24; (refine (refRight_is true es' [] [] true HM.out _ _ _ _ _ _ _ HR3.out (RowAt.nil _ _) (IntsAt.nil _) z4 (by decide) (by decide)).mono ?_); (rintro e w4 ⟨rfl, hb4⟩); (have HB4 := Lib.hid (below_step HB3.out hb4)); (have HX4 := Lib.hid (HX3.out.below hb4)); (have HG4 := Lib.hid (HG3.out.below hb4)); (have HR4 := Lib.hid (HR3.out.below hb4)); (clear hb4 m0 m1 m2 m3 n0 n1 n2 n3); (obtain ⟨m0, m1, m2, m3⟩ := HX4.out.four); (obtain ⟨n0, n1, n2, n3⟩ := HG4.out.four))
      | (go_at_call 24; (refine (refRight_is true es ks ki true HN.out _ _ _ _ _ _ _ (H1.out.below HBx.out) (H2.out.below HBx.out) (H3.out.below HBx.out) z1 z2 z3).mono ?_); (rintro e w3 ⟨rfl, hb3⟩); (have HB3 := Lib.hid (below_step HBx.out hb3)); (have HX3 := Lib.hid (HXx.out.below hb3)); (have HG3 := Lib.hid (HGx.out.below hb3)); (have HR3 := Lib.hid (HRx.out.below hb3)); (clear hb3 m0 m1 m2 m3 n0 n1 n2 n3); (obtain ⟨m0, m1, m2, m3⟩ := HX3.out.four); (obtain ⟨n0, n1, n2, n3⟩ := HG3.out.four)))
  have p0 := Near.cell (w := w4.drew) (row := none) (show w4.drew.cell? ⟨w.heap.size, 0, none⟩ = _ from m0) (by simp)
  have p1 := Near.cell (w := w4.drew) (row := none) (show w4.drew.cell? ⟨w.heap.size, 1, none⟩ = _ from m1) (by simp)
  have p2 := Near.cell (w := w4.drew) (row := none) (show w4.drew.cell? ⟨w.heap.size, 2, none⟩ = _ from m2) (by simp)
  have p3 := Near.cell (w := w4.drew) (row := none) (show w4.drew.cell? ⟨w.heap.size, 3, none⟩ = _ from m3) (by simp)
  have r0 := Near.cell (w := w4.drew) (row := none) (show w4.drew.cell? ⟨g8, 0, none⟩ = _ from n0) (by simp)
  have r1 := Near.cell (w := w4.drew) (row := none) (show w4.drew.cell? ⟨g8, 1, none⟩ = _ from n1) (by simp)
  have r2 := Near.cell (w := w4.drew) (row := none) (show w4.drew.cell? ⟨g8, 2, none⟩ = _ from n2) (by simp)
  have r3 := Near.cell (w := w4.drew) (row := none) (show w4.drew.cell? ⟨g8, 3, none⟩ = _ from n3) (by simp)
  refine wp_region_mix (fun w' => ∃ x : Near w4.drew none, w' = x.world) [] 17 (by kernel_rfl) rfl ?_
  refine mix_reads_lit [0, 2, 5, 8] 13 (by kernel_rfl) (by kernel_rfl) (by kernel_rfl) (by kernel_rfl) rfl (NearC.of (World.grownBy.refl _ _)) ?_
  simp only [pick, List.filterMap_cons, List.filterMap_nil, List.getElem?_cons_succ, List.getElem?_cons_zero]
  repeat (first | go_big_quiet_step (fail) | quiet_step (fail))
  refine wpQuiet_nil ?_
  clear p0 p1 p2 p3 r0 r1 r2 r3 m0 m1 m2 m3 n0 n1 n2 n3
  have b4 : Below w4.heap.size w4 w4.drew := (Below.refl _ _).drew
  refine mix_deed_lit 1 12 (by kernel_rfl) (by kernel_rfl) rfl (fun K hK => ?_)
  simp only [comesUp, List.getElem?_cons_succ, List.getElem?_cons_zero]
  refine if_mk rfl ?_
  go_simp
  refine (nodeWeight_is true es' [] [] HM.out L' HLM.out _ _ _ _ _ _ _ (HR4.out.below b4) (RowAt.nil _ _) z4 (by decide)).mono ?_
  rintro e w5 ⟨rfl, hb5⟩
  refine hK _ _ (fun _ _ => NearC.of (grown_of_below hb5 (Nat.le_refl _) _)) ?_
  clear hK K
  have b5 : Below w4.heap.size w4 w5 := below_step b4 hb5
  refine mix_deed_lit 3 11 (by kernel_rfl) (by kernel_rfl) rfl (fun K hK => ?_)
  simp only [comesUp, List.getElem?_cons_succ, List.getElem?_cons_zero]
  refine if_mk rfl ?_
  go_simp
  refine (nodeWeight_is true es ks ki HN.out L HLL.out _ _ _ _ _ _ _ ((H1.out.below HB4.out).below b5) ((H2.out.below HB4.out).below b5) z1 z2).mono ?_
  rintro e w6 ⟨rfl, hb6⟩
  have b6 : Below w4.heap.size w4 w6 := below_step b5 hb6
  refine hK _ _ (fun _ _ => NearC.of (grown_of_below (show Below w4.heap.size w4.drew w6 from ⟨b6.os, b6.tape, b6.output, b6.size, b6.block⟩) (Nat.le_refl _) _)) ?_
  clear hK K
  refine mix_reads_lit [4] 10 (by kernel_rfl) (by kernel_rfl) (by kernel_rfl) (by kernel_rfl) rfl (NearC.of (grown_of_below (show Below w4.heap.size w4.drew _ from ⟨b6.os, b6.tape, b6.output, b6.size, b6.block⟩) (Nat.le_refl _) _)) ?_
  simp only [pick, List.filterMap_cons, List.filterMap_nil, List.getElem?_cons_succ, List.getElem?_cons_zero]
  repeat (first | go_big_quiet_step (fail) | quiet_step (fail))
  refine wpQuiet_nil ?_
  refine mix_deed_lit 6 9 (by kernel_rfl) (by kernel_rfl) rfl (fun K hK => ?_)
  simp only [comesUp, List.getElem?_cons_succ, List.getElem?_cons_zero]
  refine if_mk rfl ?_
  go_simp
  refine (refBytes_is true es' [] [] HM.out L' HLM.out _ _ _ _ _ _ _ (HR4.out.below b6) (RowAt.nil _ _) (IntsAt.nil _)).mono ?_
  rintro e w7 ⟨⟨a7, c7, rfl, ho7⟩, hb7⟩
  have b7 : Below w4.heap.size w4 w7 := below_step b6 hb7
  refine hK _ _ (fun _ _ => NearC.of (grown_of_below (show Below w4.heap.size w4.drew w7 from ⟨b7.os, b7.tape, b7.output, b7.size, b7.block⟩) (Nat.le_refl _) _)) ?_
  clear hK K ho7
  refine mix_reads_lit [7] 8 (by kernel_rfl) (by kernel_rfl) (by kernel_rfl) (by kernel_rfl) rfl (NearC.of (grown_of_below (show Below w4.heap.size w4.drew _ from ⟨b7.os, b7.tape, b7.output, b7.size, b7.block⟩) (Nat.le_refl _) _)) ?_
  simp only [pick, List.filterMap_cons, List.filterMap_nil, List.getElem?_cons_succ, List.getElem?_cons_zero]
  repeat (first | go_big_quiet_step (fail) | quiet_step (fail))
  refine wpQuiet_nil ?_
  refine mix_deed_lit 9 7 (by kernel_rfl) (by kernel_rfl) rfl (fun K hK => ?_)
  simp only [comesUp, List.getElem?_cons_succ, List.getElem?_cons_zero]
  refine if_mk rfl ?_
  go_simp
  refine (refBytes_is true es ks ki HN.out L HLL.out _ _ _ _ _ _ _ ((H1.out.below HB4.out).below b7) ((H2.out.below HB4.out).below b7) ((H3.out.below HB4.out).below b7)).mono ?_
  rintro e w8 ⟨⟨a8, c8, rfl, ho8⟩, hb8⟩
  have b8 : Below w4.heap.size w4 w8 := below_step b7 hb8
  refine hK _ _ (fun _ _ => NearC.of (grown_of_below (show Below w4.heap.size w4.drew w8 from ⟨b8.os, b8.tape, b8.output, b8.size, b8.block⟩) (Nat.le_refl _) _)) ?_
  clear hK K ho8
  refine mix_reads_lit [10, 11, 12, 13] 3 (by kernel_rfl) (by kernel_rfl) (by kernel_rfl) (by kernel_rfl) rfl (NearC.of (grown_of_below (show Below w4.heap.size w4.drew _ from ⟨b8.os, b8.tape, b8.output, b8.size, b8.block⟩) (Nat.le_refl _) _)) ?_
  simp only [pick, List.filterMap_cons, List.filterMap_nil, List.getElem?_cons_succ, List.getElem?_cons_zero]
  repeat (first | go_big_quiet_step (fail) | quiet_step (fail))
  refine wpQuiet_nil ?_
  refine mix_deed_lit 14 2 (by kernel_rfl) (by kernel_rfl) rfl (fun K hK => ?_)
  simp only [comesUp, List.getElem?_cons_succ, List.getElem?_cons_zero]
  refine if_mk (by first | rfl | (simp [Region.wanted, yielded]; done)) ?_
  go_simp
  refine (awake7_any _ A ((HS.out.below HB4.out).below b8)).mono ?_
  rintro e w9 ⟨rfl, hb9⟩
  have b9 : Below w4.heap.size w4 w9 := below_step b8 hb9
  refine hK _ _ (fun _ _ => NearC.of (grown_of_below (show Below w4.heap.size w4.drew w9 from ⟨b9.os, b9.tape, b9.output, b9.size, b9.block⟩) (Nat.le_refl _) _)) ?_
  clear hK K
  refine mix_reads_lit [15, 16] 0 (by kernel_rfl) (by kernel_rfl) (by kernel_rfl) (by kernel_rfl) rfl (NearC.of (grown_of_below (show Below w4.heap.size w4.drew _ from ⟨b9.os, b9.tape, b9.output, b9.size, b9.block⟩) (Nat.le_refl _) _)) ?_
  simp only [pick, List.filterMap_cons, List.filterMap_nil, List.getElem?_cons_succ, List.getElem?_cons_zero]
  repeat (first | go_big_quiet_step (fail) | quiet_step (fail))
  refine wpQuiet_nil ?_
  refine mix_done_lit (by kernel_rfl) ?_
  have HB9 := Lib.hid (below_step HB4.out b9)
  clear b4 b5 b6 b7 b8 b9 hb5 hb6 hb7 hb8 hb9
  go_wp2_with fail
  go_ret
  exact ⟨rfl, HB9.out⟩
end Go.Proofs.YtlobelfnjabajaaDoor
