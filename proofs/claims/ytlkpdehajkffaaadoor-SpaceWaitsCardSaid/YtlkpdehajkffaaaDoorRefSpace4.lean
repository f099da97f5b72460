/- the document's space: the walks of New, Take, Give, Mark -/
import Derived.Test.YtlkpdehajkffaaaDoorRefSpace3
namespace Go.Proofs.YtlkpdehajkffaaaDoor
open Go.RowKit
set_option linter.unusedVariables false
set_option linter.unusedSimpArgs false

theorem setBlock {w : World} {base g n cap : Nat} {l : List Int} (h : OwnR eBlock w base (.slice (some ⟨g, 0, none⟩) n cap) l) (k : Nat) (hk : k < l.length) (x : Int) (a b : Bool) (ha : wasB x = a) (hb : usedB x = b) :
    OwnR eBlock ((w.setCell ⟨g, k * 2, none⟩ (.bool a)).setCell ⟨g, k * 2 + 1, none⟩ (.bool b)) base (.slice (some ⟨g, 0, none⟩) n cap) (l.set k x) := by
  subst ha hb
  obtain ⟨y, hy⟩ := getElem?_some_of_lt hk
  have h1 := h.set eBlock_ok (j := 0) (y := codeOf (wasB x) (usedB y)) (u := .bool (wasB x)) hy (by decide) (by show [_, _] = _; rw [(codeOf_is _ _).1, (codeOf_is _ _).2]; rfl)
  have h2 := h1.set eBlock_ok (k := k) (j := 1) (x := codeOf (wasB x) (usedB y)) (y := x) (u := .bool (usedB x)) (by rw [List.getElem?_set, if_pos rfl, if_pos hk]) (by decide) (by show [_, _] = [_, _].set 1 _; rw [(codeOf_is _ _).1]; rfl)
  rw [List.set_set] at h2
  exact h2

set_option maxRecDepth 100000 in
set_option maxHeartbeats 1000000 in
theorem refNew_any (n : Nat) (h1 : 8 ≤ n) (h2 : n ≤ 256) (w : World) :
    Calls Tryd.prog 29 #[.int .i64 (n : Int)] w fun e w' => GivesRef w.heap.size (fresh0 n) e w' ∧ Below w.heap.size w w' := by
  go_enter Tryd.func29, Tryd.ntmps29
  go_wp2_with (at_make; refine wpList_make_row eBlock eBlock_ok 0 rfl rfl _ _ rfl n _ _ rfl rfl rfl rfl (by simp; omega) (by omega) (w.heap.size + 1) (by simp) ?_)
  intro w1 hown hgrow
  have hb1 := grown_below hgrow (B := w.heap.size + 1) (by intro k hk; cases hk) (by simp)
  have r1 : w1.cell? ⟨w.heap.size, 0, none⟩ = some (.slice none 0 0) := by rw [(bcellB hb1).1 _ _ (by omega)]; go_simp
  have r2 : w1.frozen? ⟨w.heap.size, 0, none⟩ = false := by rw [(bcellB hb1).2 _ _ (by omega)]; go_simp
  have hlt := (hown.lt (w.heap.size + 1) rfl).2
  have c0 := hown.cell eBlock_ok (k := 0) (j := 0) (x := 0) (by rw [List.getElem?_replicate, if_pos (by omega)]) rfl
  have c1 := hown.cell eBlock_ok (k := 0) (j := 1) (x := 0) (by rw [List.getElem?_replicate, if_pos (by omega)]) rfl
  have c2 := hown.cell eBlock_ok (k := 1) (j := 0) (x := 0) (by rw [List.getElem?_replicate, if_pos (by omega)]) rfl
  have c3 := hown.cell eBlock_ok (k := 1) (j := 1) (x := 0) (by rw [List.getElem?_replicate, if_pos (by omega)]) rfl
  have f0 := hown.free 0
  have f1 := hown.free 1
  have f2 := hown.free 2
  have f3 := hown.free 3
  simp only [Nat.zero_mul, Nat.one_mul, Nat.zero_add, Nat.add_zero] at c0 c1 c2 c3
  have HO := Lib.hid hown
  have HB := Lib.hid hb1
  have h1n : (1 : Int) < (n : Int) := by omega
  have h0n : (0 : Int) < (n : Int) := by omega
  have hlt2 : w.heap.size < w1.heap.size := by omega
  have e1 : ¬ w1.heap.size = w.heap.size + 1 := by omega
  have e2 : ¬ w.heap.size + 1 = w1.heap.size := by omega
  have e3 : ¬ w1.heap.size = w.heap.size := by omega
  have e4 : ¬ w.heap.size = w1.heap.size := by omega
  clear hown hgrow hb1
  go_wp2
  refine bodyPost_ret (v := .agg #[.slice (some ⟨w.heap.size + 1, 0, none⟩) n n]) (by simp [results, Tryd.results29, go_sem, r1, hlt2]) rfl ?_
  have h1 := setBlock HO.out 0 (by simp; omega) 1 true true rfl rfl
  have h2 := setBlock h1 1 (by simp; omega) 1 true true rfl rfl
  have h3 := ((h2.keep (grownBy_set (World.grownBy.refl _ (some w.heap.size)) 0 (.slice (some ⟨w.heap.size + 1, 0, none⟩) n n)) (by omega)).alloc (.cells #[.slice (some ⟨w.heap.size + 1, 0, none⟩) n n] 37)).mono (b2 := w.heap.size) (by omega)
  simp only [Nat.zero_mul, Nat.one_mul, Nat.zero_add, Nat.reduceAdd] at h3
  have h4 : RefAt _ w.heap.size _ (fresh0 n) := RefAt.of h3
  clear h3 h2 h1
  refine ⟨⟨_, _, _, rfl, h4⟩, ?_⟩
  have hb : Below w.heap.size w w1 := (show Below w.heap.size w _ by go_grown).trans (HB.out.mono (by omega))
  exact (((((hb.setCell (by simp) _).setCell (by simp) _).setCell (by simp) _).setCell (by simp) _).setCell (by simp) _).alloc (by simp; omega) _

/-- what is told lies in new memory, or is what came in -/
def RefTo (w : World) (v : Value) (l : List Int) (w' : World) (v' : Value) (l' : List Int) : Prop := RefAt w' w.heap.size v' l' ∨ (v' = v ∧ l' = l)
def RefTook (w : World) (v : Value) (l : List Int) (e : Ending) (w' : World) : Prop := ∃ v', e = .returned (.tuple #[v', .int .i64 (takeI l), .int .i64 (takeC l : Nat)]) ∧ RefTo w v l w' v' (takeL l)
set_option maxRecDepth 100000 in
set_option maxHeartbeats 1000000 in
theorem refTake_any {w : World} {base : Nat} {v : Value} {l : List Int} (hr : RefAt w base v l) (hl : Legal l) (hlen : l.length ≤ 256) :
    Calls Tryd.prog 30 #[v] w fun e w' => RefTook w v l e w' ∧ Below w.heap.size w w' := by
  have HR := Lib.hid hr
  obtain ⟨a, c, rfl, h1, h2, hc⟩ := hr.row
  clear hr
  have hm : ((c : Int)) ≤ 9223372036854775807 := by unfold maxLen at h2; omega
  have HC := Lib.hid hc
  have HL := Lib.hid hl
  clear hc hl h2
  cases hf : takeFound l with
  | true =>
    have hk0 := takeK_at hf
    have hkl : takeK l < l.length := (List.getElem?_eq_some_iff.1 hk0).1
    have HK := Lib.hid (takeK_before l)
    have HZ := Lib.hid hk0
    have HF := Lib.hid hf
    clear hk0 hf
    generalize hkk : takeK l = kk at *
    have HKK := Lib.hid hkk
    clear hkk
    go_enter Tryd.func30, Tryd.ntmps30
    go_wp2
    go_loop [5] (fun i => ∃ k : Nat, k ≤ kk ∧ i = .int .i64 k) (fun i => kk + 1 - (intOf i).toNat)
    case atStart => exact ⟨0, by omega, rfl⟩
    case round =>
      obtain ⟨k, hk, rfl⟩ := hrel
      have hlt : k < l.length := by omega
      obtain ⟨x, hx⟩ := getElem?_some_of_lt hlt
      rcases HC.out with hn | ⟨g, rfl, hbg, hgl, hc⟩
      · rw [hn] at hlt; simp at hlt
      obtain ⟨c1, c2⟩ := hc k x hx
      by_cases he : k = kk
      · subst he
        have hx0 : x = 0 := by have := HZ.out; rw [hx] at this; simpa using this
        subst hx0
        rw [show wasB 0 = false from rfl] at c1
        rw [show usedB 0 = false from rfl] at c2
        clear hx hc
        go_wp2_with (go_at_call 40; refine (refSet_is (HR.out.alloc _ |>.alloc _) hlen k hlt 2 false true rfl rfl).mono ?_; rintro e w1 ⟨⟨a1, n1, c1', rfl, hv1⟩, hb1⟩; obtain ⟨bc1, bf1⟩ := bcellB hb1)
        have hlt2 : w.heap.size + 1 < w1.heap.size := by have := hb1.size; simp at this; omega
        have e1 : takeI l = k := by unfold takeI; rw [if_pos HF.out, HKK.out]
        have e2 : takeC l = 0 := by unfold takeC; rw [if_pos HF.out]
        have e3 : takeL l = l.set k 2 := by unfold takeL; rw [if_pos HF.out, HKK.out]
        refine bodyPost_ret (v := .tuple #[.agg #[.slice a1 n1 c1'], .int .i64 k, .int .i64 0]) (by simp [results, Tryd.results30, go_sem, bc1]) rfl ?_
        refine ⟨⟨_, by rw [e1, e2]; rfl, ?_⟩, ?_⟩
        · rw [e3]
          left
          exact (hv1.keep (grownBy_set (World.grownBy.refl _ (some (w.heap.size + 1))) 0 (.slice a1 n1 c1')) (by simp)).mono (by simp; omega)
        · exact ((show Below w.heap.size w _ by go_grown).trans (hb1.mono (by simp; omega))).setCell (by simp) _
      · have hx0 : (x == 0) = false := by
          have := HK.out k (by omega)
          rw [hx] at this
          simpa using this
        have HW := wasB_not (HL.out x (List.mem_of_getElem? hx))
        rw [hx0] at HW
        generalize hwx : wasB x = wx at *
        generalize hux : usedB x = ux at *
        clear hx hc hwx hux
        have HW2 := Lib.hid HW
        cases wx <;> cases ux <;> first | (simp at HW; done) | skip
        all_goals
          clear HW
          go_wp2
          go_round
          case rel => exact ⟨k + 1, by omega, by go_num⟩
          case measure => simp [intOf]; omega
  | false =>
    have HK := Lib.hid (fun j => take_none hf j)
    have e1 : takeI l = 0 := by unfold takeI; rw [if_neg (by rw [hf]; decide)]
    have e2 : takeC l = 3 := by unfold takeC; rw [if_neg (by rw [hf]; decide)]
    have e3 : takeL l = l := by unfold takeL; rw [if_neg (by rw [hf]; decide)]
    have E1 := Lib.hid e1
    have E2 := Lib.hid e2
    have E3 := Lib.hid e3
    clear hf e1 e2 e3
    go_enter Tryd.func30, Tryd.ntmps30
    go_wp2
    go_loop [5] (fun i => ∃ k : Nat, k ≤ l.length ∧ i = .int .i64 k) (fun i => l.length - (intOf i).toNat)
    case atStart => exact ⟨0, by omega, rfl⟩
    case round =>
      obtain ⟨k, hk, rfl⟩ := hrel
      by_cases hlt : k < l.length
      · obtain ⟨x, hx⟩ := getElem?_some_of_lt hlt
        rcases HC.out with hn | ⟨g, rfl, hbg, hgl, hc⟩
        · rw [hn] at hlt; simp at hlt
        obtain ⟨c1, c2⟩ := hc k x hx
        have hx0 : (x == 0) = false := by
          have := HK.out k
          rw [hx] at this
          simpa using this
        have HW := wasB_not (HL.out x (List.mem_of_getElem? hx))
        rw [hx0] at HW
        generalize hwx : wasB x = wx at *
        generalize hux : usedB x = ux at *
        clear hx hc hwx hux
        cases wx <;> cases ux <;> first | (simp at HW; done) | skip
        all_goals
          clear HW
          go_wp2
          go_round
          case rel => exact ⟨k + 1, by omega, by go_num⟩
          case measure => simp [intOf]; omega
      · have hk2 : k = l.length := by omega
        subst hk2
        go_wp2
        refine bodyPost_ret (v := .tuple #[.agg #[.slice a l.length c], .int .i64 0, .int .i64 3]) (by simp [results, Tryd.results30, go_sem]) rfl ?_
        refine ⟨⟨_, by rw [E1.out, E2.out]; rfl, ?_⟩, ?_⟩
        · exact .inr ⟨rfl, E3.out⟩
        · go_grown

def RefDid (w : World) (v : Value) (l l' : List Int) (k : Nat) (e : Ending) (w' : World) : Prop := ∃ v', e = .returned (.tuple #[v', .int .i64 (k : Int)]) ∧ RefTo w v l w' v' l'
theorem refIn_is {w : World} {base : Nat} {v : Value} {l : List Int} (hr : RefAt w base v l) (hlen : l.length ≤ 256) (id : Int) (b : Bool) (hb : inS l id = b) :
    Calls Tryd.prog 41 #[v, .int .i64 id] w fun e w' => e = .returned (.bool b) ∧ Below w.heap.size w w' := by
  subst hb; exact refIn_any hr hlen id

set_option maxRecDepth 100000 in
set_option maxHeartbeats 1000000 in
theorem refGive_any {w : World} {base : Nat} {v : Value} {l : List Int} (hr : RefAt w base v l) (hl : Legal l) (hlen : l.length ≤ 256) (id : Int) :
    Calls Tryd.prog 31 #[v, .int .i64 id] w fun e w' => RefDid w v l (giveL l id) (giveC l id) e w' ∧ Below w.heap.size w w' := by
  have HR := Lib.hid hr
  obtain ⟨a, c, rfl, h1, h2, hc⟩ := hr.row
  have hm : ((c : Int)) ≤ 9223372036854775807 := by unfold maxLen at h2; omega
  clear hr h2
  cases hin : inS l id with
  | true =>
    obtain ⟨hi2, hi3⟩ : 2 ≤ id ∧ id < (l.length : Int) := by unfold inS at hin; simpa using hin
    obtain ⟨k, rfl⟩ : ∃ k : Nat, id = k := ⟨id.toNat, by omega⟩
    have hlt : k < l.length := by omega
    obtain ⟨x, hx⟩ := getElem?_some_of_lt hlt
    rcases hc with hn | ⟨g, rfl, hbg, hgl, hc⟩
    · rw [hn] at hlt; simp at hlt
    obtain ⟨c1, c2⟩ := hc k x hx
    have hgl2 : g < w.heap.size + 1 + 1 := by omega
    have hx4 := hl x (List.mem_of_getElem? hx)
    have HI := Lib.hid hin
    have HC : Hid (giveC l k = if usedB x then 0 else 1) := Lib.hid (by unfold giveC; rw [if_pos hin, Int.toNat_natCast, hx]; rfl)
    have HL : Hid (giveL l k = if x = 2 then l.set k 0 else if x = 1 then l.set k 3 else l) := Lib.hid (by unfold giveL; rw [if_pos hin, Int.toNat_natCast, hx]; rfl)
    clear hc hx hin hl
    by_cases hu : usedB x = true
    · obtain ⟨x', hw', hu', hl'⟩ : ∃ x', wasB x' = wasB x ∧ usedB x' = false ∧ giveL l k = l.set k x' := by
        have hxc : x = 1 ∨ x = 2 := by unfold usedB at hu; simpa using hu
        rcases hxc with rfl | rfl
        · exact ⟨3, rfl, rfl, by rw [HL.out]; simp⟩
        · exact ⟨0, rfl, rfl, by rw [HL.out]; simp⟩
      have HL2 := Lib.hid hl'
      have HC2 : Hid (giveC l k = 0) := Lib.hid (by rw [HC.out, if_pos hu])
      have HW := Lib.hid hw'
      have HU := Lib.hid hu'
      rw [hu] at c2
      clear hl' hw' hu' HL HC hu
      go_enter Tryd.func31, Tryd.ntmps31
      go_wp2_with (go_at_call 41; refine (refIn_is (HR.out.alloc _ |>.alloc _) hlen _ _ HI.out).mono ?_; rintro e w1 ⟨rfl, hb1⟩; obtain ⟨bc1, bf1⟩ := bcellB hb1)
      have n0 : w1.cell? ⟨w.heap.size, 0, none⟩ = some (.slice (some ⟨g, 0, none⟩) l.length c) := by rw [bc1 _ _ (by simp; omega)]; go_simp
      have n1 := Near.cell (w := w1.drew) (row := some (w.heap.size + 1)) n0 (by simp)
      have n2 := Near.cell (w := w1.drew) (row := some (w.heap.size + 1)) (show w1.cell? ⟨g, k * 2, none⟩ = some (.bool (wasB x)) by rw [bc1 _ _ (by simp; omega)]; go_simp) (by simp; omega)
      refine wp_region_mix (fun w' => ∃ x : Near w1.drew (some (w.heap.size + 1)), w' = x.world) [] 12 (by kernel_rfl) rfl ?_
      refine mix_reads_lit [0, 1, 2, 3, 4, 5, 6, 7, 8] 3 (by kernel_rfl) (by kernel_rfl) (by kernel_rfl) (by kernel_rfl) rfl (NearC.of (World.grownBy.refl _ _)) ?_
      simp only [pick, List.filterMap_cons, List.filterMap_nil, List.getElem?_cons_succ, List.getElem?_cons_zero]
      repeat (first | go_big_quiet_step (fail) | quiet_step (fail))
      refine wpQuiet_nil ?_
      refine mix_deed_lit 9 2 (by kernel_rfl) (by kernel_rfl) rfl (fun K hK => ?_)
      simp only [comesUp, List.getElem?_cons_succ, List.getElem?_cons_zero]
      refine if_mk rfl ?_
      go_simp
      have hr1 : RefAt w1.drew base (.agg #[.slice (some ⟨g, 0, none⟩) l.length c]) l := (((HR.out.alloc _).alloc _).below hb1 (Nat.le_refl _)).drew
      refine (refSet_is hr1 hlen k hlt x' (wasB x) false HW.out HU.out).mono ?_
      rintro e w2 ⟨⟨a2, n2', c2', rfl, hv2⟩, hb2⟩
      have hlt1 : w.heap.size + 1 < w1.heap.size := by have := hb1.size; simp at this; omega
      have hlt2 : w.heap.size + 1 < w2.heap.size := by have := hb2.size; simp at this; omega
      have gb : w1.drew.grownBy w2 (some (w.heap.size + 1)) := grown_of_below hb2 (Nat.le_refl _) _
      refine hK _ _ (fun _ _ => NearC.of gb) ?_
      clear hK K
      refine mix_deed_lit 10 1 (by kernel_rfl) (by kernel_rfl) rfl (fun K hK => ?_)
      simp only [comesUp, List.getElem?_cons_succ, List.getElem?_cons_zero]
      refine if_mk rfl ?_
      have s1 : w2.cell? ⟨w.heap.size + 1, 0, none⟩ = some (.slice none 0 0) := by
        rw [(bcellB hb2).1 _ _ (by simp; omega)]
        show w1.cell? _ = _
        rw [bc1 _ _ (by simp)]
        go_simp
      have s2 : w2.frozen? ⟨w.heap.size + 1, 0, none⟩ = false := by
        rw [(bcellB hb2).2 _ _ (by simp; omega)]
        show w1.frozen? _ = _
        rw [bf1 _ _ (by simp)]
        go_simp
      go_simp
      refine hK _ _ (fun _ _ => NearC.of (grownBy_set gb _ _)) ?_
      clear hK K
      refine mix_deed_lit 11 0 (by kernel_rfl) (by kernel_rfl) rfl (fun K hK => ?_)
      simp only [comesUp, List.getElem?_cons_succ, List.getElem?_cons_zero]
      refine if_mk rfl ?_
      go_simp
      refine hK _ _ (fun _ _ => NearC.of (grownBy_set gb _ _)) ?_
      clear hK K
      refine mix_done_lit (by kernel_rfl) ?_
      have HV := Lib.hid hv2
      have HB := Lib.hid ((((show Below w.heap.size w _ by go_grown).trans (hb1.mono (by simp; omega))).drew.trans (hb2.mono (by simp; omega))).setCell (p := ⟨w.heap.size + 1, 0, none⟩) (by simp) (.slice a2 n2' c2'))
      clear hv2 hb2 hb1 gb hr1
      go_wp2
      refine bodyPost_ret (v := .tuple #[.agg #[.slice a2 n2' c2'], .int .i64 0]) (by simp [results, Tryd.results31, go_sem, s1]) rfl ?_
      refine ⟨⟨_, by rw [HC2.out]; rfl, ?_⟩, HB.out⟩
      rw [HL2.out]
      left
      exact (HV.out.keep (grownBy_set (World.grownBy.refl _ (some (w.heap.size + 1))) 0 (.slice a2 n2' c2')) (by simp; omega)).mono (by simp; omega)
    · have hu0 : usedB x = false := by simpa using hu
      have HC2 : Hid (giveC l k = 1) := Lib.hid (by rw [HC.out, if_neg hu])
      have HL2 : Hid (giveL l k = l) := Lib.hid (by
        rw [HL.out]
        have hxc : ¬ (x = 1 ∨ x = 2) := by unfold usedB at hu; simpa using hu
        rw [if_neg (fun e => hxc (.inr e)), if_neg (fun e => hxc (.inl e))])
      rw [hu0] at c2
      clear HL HC hu hu0
      go_enter Tryd.func31, Tryd.ntmps31
      go_wp2_with (go_at_call 41; refine (refIn_is (HR.out.alloc _ |>.alloc _) hlen _ _ HI.out).mono ?_; rintro e w1 ⟨rfl, hb1⟩; obtain ⟨bc1, bf1⟩ := bcellB hb1)
      refine bodyPost_ret (v := .tuple #[.agg #[.slice (some ⟨g, 0, none⟩) l.length c], .int .i64 1]) (by simp [results, Tryd.results31, go_sem, bc1]) rfl ?_
      have hB := ((show Below w.heap.size w _ by go_grown).trans (hb1.mono (by simp; omega))).setCell (p := ⟨w.heap.size + 1, 0, none⟩) (by simp) (.slice (some ⟨g, 0, none⟩) l.length c)
      exact ⟨⟨_, by rw [HC2.out]; rfl, .inr ⟨rfl, HL2.out⟩⟩, hB⟩
  | false =>
    have HC : Hid (giveC l id = 2) := Lib.hid (by unfold giveC; rw [if_neg (by rw [hin]; decide)])
    have HL : Hid (giveL l id = l) := Lib.hid (by unfold giveL; rw [if_neg (by rw [hin]; decide)])
    have HI := Lib.hid hin
    clear hc hin hl
    go_enter Tryd.func31, Tryd.ntmps31
    go_wp2_with (go_at_call 41; refine (refIn_is (HR.out.alloc _ |>.alloc _) hlen _ _ HI.out).mono ?_; rintro e w1 ⟨rfl, hb1⟩; obtain ⟨bc1, bf1⟩ := bcellB hb1)
    refine bodyPost_ret (v := .tuple #[.agg #[.slice a l.length c], .int .i64 2]) (by simp [results, Tryd.results31, go_sem, bc1]) rfl ?_
    have hB := ((show Below w.heap.size w _ by go_grown).trans (hb1.mono (by simp; omega))).setCell (p := ⟨w.heap.size + 1, 0, none⟩) (by simp) (.slice a l.length c)
    exact ⟨⟨_, by rw [HC.out]; rfl, .inr ⟨rfl, HL.out⟩⟩, hB⟩

set_option maxRecDepth 100000 in
set_option maxHeartbeats 1000000 in
theorem refMark_any {w : World} {base : Nat} {v : Value} {l : List Int} (hr : RefAt w base v l) (hl : Legal l) (hlen : l.length ≤ 256) (id : Int) :
    Calls Tryd.prog 32 #[v, .int .i64 id] w fun e w' => RefDid w v l (markL l id) (markC l id) e w' ∧ Below w.heap.size w w' := by
  have HR := Lib.hid hr
  obtain ⟨a, c, rfl, h1, h2, hc⟩ := hr.row
  have hm : ((c : Int)) ≤ 9223372036854775807 := by unfold maxLen at h2; omega
  clear hr h2
  cases hin : inS l id with
  | true =>
    obtain ⟨hi2, hi3⟩ : 2 ≤ id ∧ id < (l.length : Int) := by unfold inS at hin; simpa using hin
    obtain ⟨k, rfl⟩ : ∃ k : Nat, id = k := ⟨id.toNat, by omega⟩
    have hlt : k < l.length := by omega
    obtain ⟨x, hx⟩ := getElem?_some_of_lt hlt
    rcases hc with hn | ⟨g, rfl, hbg, hgl, hc⟩
    · rw [hn] at hlt; simp at hlt
    obtain ⟨c1, c2⟩ := hc k x hx
    have hgl2 : g < w.heap.size + 1 + 1 := by omega
    have hx4 := hl x (List.mem_of_getElem? hx)
    have HI := Lib.hid hin
    have HC : Hid (markC l k = if x = 0 then 0 else 1) := Lib.hid (by unfold markC; rw [if_pos hin, Int.toNat_natCast, hx]; rfl)
    have HL : Hid (markL l k = if x = 0 then l.set k 1 else l) := Lib.hid (by unfold markL; rw [if_pos hin, Int.toNat_natCast, hx]; rfl)
    clear hc hx hin hl
    by_cases hu : x = 0
    · have HL2 : Hid (markL l k = l.set k 1) := Lib.hid (by rw [HL.out, if_pos hu])
      have HC2 : Hid (markC l k = 0) := Lib.hid (by rw [HC.out, if_pos hu])
      subst hu
      rw [show wasB 0 = false from rfl] at c1
      rw [show usedB 0 = false from rfl] at c2
      clear HL HC
      go_enter Tryd.func32, Tryd.ntmps32
      go_wp2_with (first
        | (go_at_call 41; refine (refIn_is (HR.out.alloc _ |>.alloc _) hlen _ _ HI.out).mono ?_; rintro e w1 ⟨rfl, hb1⟩; obtain ⟨bc1, bf1⟩ := bcellB hb1)
        | (go_at_call 40; refine (refSet_is (base := base) (((HR.out.alloc _).alloc _).below hb1 (Nat.le_refl _)) hlen k hlt 1 true true rfl rfl).mono ?_; rintro e w2 ⟨⟨a2, n2', c2', rfl, hv2⟩, hb2⟩; obtain ⟨bc2, bf2⟩ := bcellB hb2; have hlt1 : w.heap.size + 1 < w1.heap.size := by have := hb1.size; simp at this; omega))
      have hlt2 : w.heap.size + 1 < w2.heap.size := by have := hb2.size; omega
      refine bodyPost_ret (v := .tuple #[.agg #[.slice a2 n2' c2'], .int .i64 0]) (by simp [results, Tryd.results32, go_sem, bc1, bc2, hlt1]) rfl ?_
      refine ⟨⟨_, by rw [HC2.out]; rfl, ?_⟩, ?_⟩
      · rw [HL2.out]
        left
        exact (hv2.keep (grownBy_set (World.grownBy.refl _ (some (w.heap.size + 1))) 0 (.slice a2 n2' c2')) (by omega)).mono (by omega)
      · exact (((show Below w.heap.size w _ by go_grown).trans (hb1.mono (by simp; omega))).trans (hb2.mono (by omega))).setCell (by simp) _
    · have HL2 : Hid (markL l k = l) := Lib.hid (by rw [HL.out, if_neg hu])
      have HC2 : Hid (markC l k = 1) := Lib.hid (by rw [HC.out, if_neg hu])
      have hor : wasB x = true ∨ (wasB x = false ∧ usedB x = true) := by
        rcases (show x = 1 ∨ x = 2 ∨ x = 3 by omega) with rfl | rfl | rfl
        · exact .inl rfl
        · exact .inr ⟨rfl, rfl⟩
        · exact .inl rfl
      clear HL HC hu hx4
      rcases hor with hh | ⟨hh, hh2⟩
      · rw [hh] at c1
        clear hh
        go_enter Tryd.func32, Tryd.ntmps32
        go_wp2_with (go_at_call 41; refine (refIn_is (HR.out.alloc _ |>.alloc _) hlen _ _ HI.out).mono ?_; rintro e w1 ⟨rfl, hb1⟩; obtain ⟨bc1, bf1⟩ := bcellB hb1)
        refine bodyPost_ret (v := .tuple #[.agg #[.slice (some ⟨g, 0, none⟩) l.length c], .int .i64 1]) (by simp [results, Tryd.results32, go_sem, bc1]) rfl ?_
        have hB := ((show Below w.heap.size w _ by go_grown).trans (hb1.mono (by simp; omega))).setCell (p := ⟨w.heap.size + 1, 0, none⟩) (by simp) (.slice (some ⟨g, 0, none⟩) l.length c)
        exact ⟨⟨_, by rw [HC2.out]; rfl, .inr ⟨rfl, HL2.out⟩⟩, hB⟩
      · rw [hh] at c1
        rw [hh2] at c2
        clear hh hh2
        go_enter Tryd.func32, Tryd.ntmps32
        go_wp2_with (go_at_call 41; refine (refIn_is (HR.out.alloc _ |>.alloc _) hlen _ _ HI.out).mono ?_; rintro e w1 ⟨rfl, hb1⟩; obtain ⟨bc1, bf1⟩ := bcellB hb1)
        refine bodyPost_ret (v := .tuple #[.agg #[.slice (some ⟨g, 0, none⟩) l.length c], .int .i64 1]) (by simp [results, Tryd.results32, go_sem, bc1]) rfl ?_
        have hB := ((show Below w.heap.size w _ by go_grown).trans (hb1.mono (by simp; omega))).setCell (p := ⟨w.heap.size + 1, 0, none⟩) (by simp) (.slice (some ⟨g, 0, none⟩) l.length c)
        exact ⟨⟨_, by rw [HC2.out]; rfl, .inr ⟨rfl, HL2.out⟩⟩, hB⟩
  | false =>
    have HC : Hid (markC l id = 2) := Lib.hid (by unfold markC; rw [if_neg (by rw [hin]; decide)])
    have HL : Hid (markL l id = l) := Lib.hid (by unfold markL; rw [if_neg (by rw [hin]; decide)])
    have HI := Lib.hid hin
    clear hc hin hl
    go_enter Tryd.func32, Tryd.ntmps32
    go_wp2_with (go_at_call 41; refine (refIn_is (HR.out.alloc _ |>.alloc _) hlen _ _ HI.out).mono ?_; rintro e w1 ⟨rfl, hb1⟩; obtain ⟨bc1, bf1⟩ := bcellB hb1)
    refine bodyPost_ret (v := .tuple #[.agg #[.slice a l.length c], .int .i64 2]) (by simp [results, Tryd.results32, go_sem, bc1]) rfl ?_
    have hB := ((show Below w.heap.size w _ by go_grown).trans (hb1.mono (by simp; omega))).setCell (p := ⟨w.heap.size + 1, 0, none⟩) (by simp) (.slice a l.length c)
    exact ⟨⟨_, by rw [HC.out]; rfl, .inr ⟨rfl, HL.out⟩⟩, hB⟩
end Go.Proofs.YtlkpdehajkffaaaDoor
