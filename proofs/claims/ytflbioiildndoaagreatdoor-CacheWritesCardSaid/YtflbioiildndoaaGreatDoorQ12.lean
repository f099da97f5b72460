/- merged: RefOpen, RefOpenAt -/
import Derived.Test.YtflbioiildndoaaGreatDoorQ8
import Derived.Deep.DeepCutAuto
/- pages: the document's Open, OpenAt -/
namespace Go.Proofs.YtflbioiildndoaaGreatDoor
open Go.RowKit
set_option linter.unusedVariables false
set_option linter.unusedSimpArgs false

theorem refTake_num (v : Value) (l : List UInt8) (A X : Int) (w : World) (hb : BytesAt w v l) (hx : Fld.right X = true) (hA : 0 ≤ A) (hat : A + X ≤ l.length) :
    Calls Tryz.prog 100 #[v, .int .i64 A, .int .i64 X] w fun e w' => e = .returned (.tuple #[.int .u64 (numI l A X), .int .i64 0]) ∧ w = w' := by
  obtain ⟨m, rfl⟩ : ∃ m : Nat, X = (m : Int) := ⟨X.toNat, by rcases Fld.right_cases hx with h | h | h | h <;> omega⟩
  obtain ⟨p, rfl⟩ : ∃ p : Nat, A = (p : Int) := ⟨A.toNat, by omega⟩
  exact refTake_ok v l p m w hb hx (by omega)

/-- what the document's Open tells: a page, a code, the page that is named -/
def OpenCode (w : World) (r : Pg.Page × Nat × Int) (e : Ending) (w' : World) : Prop :=
  ∃ a c, e = .returned (.tuple #[pageV r.1 (.slice a r.1.body.length c), .int .i64 (r.2.1 : Int), .int .i64 r.2.2]) ∧ Own w' w.heap.size (.slice a r.1.body.length c) r.1.body
theorem zero_code {w w' : World} {k : Nat} {x : Int} : OpenCode w (Pg.zero, k, x) (.returned (.tuple #[zeroV, .int .i64 (k : Int), .int .i64 x])) w' := ⟨none, 0, rfl, Own.nil _ _⟩

theorem num2 {l : List UInt8} {x y : UInt8} (h2 : l[2]? = some x) (h3 : l[3]? = some y) : (Pg.num l 2 2 : Int) = (x.toNat : Int) + 256 * (y.toNat : Int) := by
  match l, h2, h3 with
  | a :: b :: c :: d :: r, h2, h3 =>
    simp at h2 h3
    subst h2 h3
    simp [Pg.num, Fld.unle]
theorem num0 {l : List UInt8} {x : UInt8} (h : l[0]? = some x) : (Pg.num l 0 1 : Int) = (x.toNat : Int) := by
  match l, h with
  | a :: r, h =>
    simp at h
    subst h
    simp [Pg.num, Fld.unle]

/-- behind the box of the page: the box, and the body, in memory that is new at D -/
structure RefMid (D w' : World) (r : Nat) (v0 v1 v2 : Value) (a2 : Option Addr) (c2 : Nat) (L : List UInt8) : Prop where
  gb : D.grownBy w' none
  own : Own w' D.heap.size (.slice a2 L.length c2) L
  box : Box4 w' r v0 v1 v2 (.slice a2 L.length c2)
  le : D.heap.size ≤ r
theorem RefMid.back {D D0 w' : World} {r : Nat} {v0 v1 v2 : Value} {a2 : Option Addr} {c2 : Nat} {L : List UInt8} (h : RefMid D w' r v0 v1 v2 a2 c2 L) (hg : D0.grownBy D none) (hs : D.heap.size = D0.heap.size) : RefMid D0 w' r v0 v1 v2 a2 c2 L :=
  ⟨grown_trans hg h.gb, by rw [← hs]; exact h.own, h.box, by rw [← hs]; exact h.le⟩
theorem box4_store {w : World} {r : Nat} {o0 o1 o2 o3 : Value} {T : TypeId} (hr : w.heap[r]? = some (.cells #[o0, o1, o2, o3] T (0, 0))) (v0 v1 v2 v3 : Value) :
    Box4 ((((w.setCell ⟨r, 0, none⟩ v0).setCell ⟨r, 1, none⟩ v1).setCell ⟨r, 2, none⟩ v2).setCell ⟨r, 3, none⟩ v3) r v0 v1 v2 v3 := by
  have s0 : w.cell? ⟨r, 0, none⟩ = some o0 := by simp [World.cell?, hr]
  have s1 : w.cell? ⟨r, 1, none⟩ = some o1 := by simp [World.cell?, hr]
  have s2 : w.cell? ⟨r, 2, none⟩ = some o2 := by simp [World.cell?, hr]
  have s3 : w.cell? ⟨r, 3, none⟩ = some o3 := by simp [World.cell?, hr]
  have t0 : w.frozen? ⟨r, 0, none⟩ = false := by simp [World.frozen?, hr]
  have t1 : w.frozen? ⟨r, 1, none⟩ = false := by simp [World.frozen?, hr]
  have t2 : w.frozen? ⟨r, 2, none⟩ = false := by simp [World.frozen?, hr]
  have t3 : w.frozen? ⟨r, 3, none⟩ = false := by simp [World.frozen?, hr]
  constructor <;> go_simp
theorem grown_sets {D w : World} {r : Nat} (h : D.grownBy w none) (hr : D.heap.size ≤ r) (j : Nat) (v : Value) : D.grownBy (w.setCell ⟨r, j, none⟩ v) none :=
  grown_new h (grownBy_set (World.grownBy.refl w (some r)) j v) (fun g hg => by simp at hg; omega)
theorem own_sets {w : World} {S r : Nat} {v : Value} {l : List UInt8} (h : Own w S v l) (hne : v.ownBlock = none ∨ v.ownBlock ≠ some r) (j : Nat) (u : Value) : Own (w.setCell ⟨r, j, none⟩ u) S v l :=
  h.grown (grownBy_set (World.grownBy.refl w (some r)) j u) hne
theorem RefMid.mk' {D w : World} {r : Nat} {o0 o1 o2 o3 : Value} {T : TypeId} {a2 : Option Addr} {c2 : Nat} {L : List UInt8} (gb : D.grownBy w none) (hr : w.heap[r]? = some (.cells #[o0, o1, o2, o3] T (0, 0)))
    (ho : Own w D.heap.size (.slice a2 L.length c2) L) (hne : (Value.slice a2 L.length c2).ownBlock = none ∨ (Value.slice a2 L.length c2).ownBlock ≠ some r) (le : D.heap.size ≤ r) (v0 v1 v2 : Value) :
    RefMid D ((((w.setCell ⟨r, 0, none⟩ v0).setCell ⟨r, 1, none⟩ v1).setCell ⟨r, 2, none⟩ v2).setCell ⟨r, 3, none⟩ (.slice a2 L.length c2)) r v0 v1 v2 a2 c2 L :=
  ⟨grown_sets (grown_sets (grown_sets (grown_sets gb le 0 v0) le 1 v1) le 2 v2) le 3 _, own_sets (own_sets (own_sets (own_sets ho hne 0 v0) hne 1 v1) hne 2 v2) hne 3 _, box4_store hr v0 v1 v2 _, le⟩
theorem box4_below {w w' : World} {B r : Nat} {v0 v1 v2 v3 : Value} (h : Box4 w r v0 v1 v2 v3) (hb : Below B w w') (hl : r < B) : Box4 w' r v0 v1 v2 v3 := by
  obtain ⟨bc, bf⟩ := bcellB hb
  constructor
  · rw [bc _ _ hl]; exact h.c0
  · rw [bc _ _ hl]; exact h.c1
  · rw [bc _ _ hl]; exact h.c2
  · rw [bc _ _ hl]; exact h.c3
  · rw [bf _ _ hl]; exact h.f0
  · rw [bf _ _ hl]; exact h.f1
  · rw [bf _ _ hl]; exact h.f2
  · rw [bf _ _ hl]; exact h.f3
theorem _root_.Go.World.grownBy.below0 {w w' : World} {B : Nat} (h : w.grownBy w' none) (hB : B ≤ w.heap.size) : Below B w w' := grown_below h (by simp) hB
theorem refCheck_is (p : Pg.Page) (a : Option Addr) (c : Nat) (size K : Int) (hK : (Pg.checkC p size : Int) = K) (w : World) (hsz : -9223372036854775808 ≤ size ∧ size ≤ 9223372036854775807) (hn : p.body.length ≤ 9223372036854775807) :
    Calls Tryz.prog 58 #[.agg #[.int .i64 p.kind, .int .i64 p.id, .int .u64 (p.gen : Int), .slice a p.body.length c], .int .i64 size] w fun e w' => e = .returned (.int .i64 K) ∧ Below w.heap.size w w' := by
  subst hK
  exact refCheck_any p a c size w hsz hn
theorem same_is (v1 v2 : Value) (l1 l2 : List UInt8) (t : Bool) (ht : (l1 == l2) = t) (w : World) (h1 : BytesAt w v1 l1) (h2 : BytesAt w v2 l2) :
    Calls Tryz.prog 16 #[v1, v2] w fun e w' => e = .returned (.bool t) ∧ Below w.heap.size w w' := by subst ht; exact same_any v1 v2 l1 l2 w h1 h2
/-- a row of bytes is no box -/
theorem ownBlock_apart {w : World} {S r : Nat} {v : Value} {l : List UInt8} {c : Array Value} {T : TypeId} {f : Nat × Nat} (ho : Own w S v l) (hr : w.heap[r]? = some (.cells c T f)) (hT : T ≠ 5) :
    v.ownBlock = none ∨ v.ownBlock ≠ some r := by
  rcases ho.2 with ⟨rfl, _⟩ | ⟨g, cap, cur, rfl, _, hg, _⟩
  · exact .inl rfl
  · right
    intro e
    simp [Value.ownBlock] at e
    subst e
    rw [hg] at hr
    simp at hr
    exact hT hr.2.1.symm

set_option maxRecDepth 100000 in
set_option maxHeartbeats 2000000 in
theorem refOpen_size (a : Option Addr) (c : Nat) (l : List UInt8) (w : World) (h : Pg.sized l.length = false) (hm : l.length ≤ 9223372036854775807) :
    Calls Tryz.prog 94 #[.slice a l.length c] w fun e w' => OpenCode w (Pg.zero, 2, -1) e w' ∧ Below w.heap.size w w' := by
  have hcase : l.length < 256 ∨ (256 ≤ l.length ∧ 1024 < l.length) := by unfold Pg.sized at h; simp at h; omega
  clear h
  rcases hcase with h | ⟨h, h2⟩
  all_goals
    go_enter Tryz.func94, Tryz.ntmps94
    go_wp2
    refine bodyPost_ret (v := .tuple #[zeroV, .int .i64 2, .int .i64 (-1)]) (by simp [results, Tryz.results94, go_sem, zeroV]) rfl ?_
    exact ⟨zero_code, by go_grown⟩

set_option maxRecDepth 100000 in
set_option maxHeartbeats 2000000 in
theorem refOpen_main (b o c : Nat) (l : List UInt8) (w : World) (hb : BytesAt w (.slice (some ⟨b, o, none⟩) l.length c) l) (hz : 256 ≤ l.length ∧ l.length ≤ 1024) :
    Calls Tryz.prog 94 #[.slice (some ⟨b, o, none⟩) l.length c] w fun e w' => OpenCode w (Pg.openL l) e w' ∧ Below w.heap.size w w' := by
  have HB := Lib.hid hb
  obtain ⟨x0, hx0⟩ := getElem?_some_of_lt (show 0 < l.length by omega)
  obtain ⟨x2, hx2⟩ := getElem?_some_of_lt (show 2 < l.length by omega)
  obtain ⟨x3, hx3⟩ := getElem?_some_of_lt (show 3 < l.length by omega)
  have hn0 := num0 hx0
  have hn2 := num2 hx2 hx3
  have hcc := hb
  obtain ⟨a', c', e, q1, q2, hl⟩ := hcc
  simp only [Value.slice.injEq] at e
  obtain ⟨rfl, -, rfl⟩ := e
  rcases hl with rfl | ⟨b', o', e, hc⟩
  · simp at hz
  simp only [Option.some.injEq, Addr.mk.injEq, and_true] at e
  obtain ⟨rfl, rfl⟩ := e
  unfold maxLen at q2
  have l0 := World.block_lt_of_cell? w _ (hc 0 x0 hx0)
  simp only at l0
  have c0 : w.cell? ⟨b, o + 0, none⟩ = _ := hc 0 x0 hx0
  have c2 : w.cell? ⟨b, o + 2, none⟩ = _ := hc 2 x2 hx2
  have c3 : w.cell? ⟨b, o + 3, none⟩ = _ := hc 3 x3 hx3
  have HC0 := Lib.hid c0
  have HC2 := Lib.hid c2
  have HC3 := Lib.hid c3
  have HN0 := Lib.hid hn0
  have HN2 := Lib.hid hn2
  have y0 : (x0.toNat : Int) ≤ 255 := by have := x0.toNat_lt; omega
  have y2 : (x2.toNat : Int) ≤ 255 := by have := x2.toNat_lt; omega
  have y3 : (x3.toNat : Int) ≤ 255 := by have := x3.toNat_lt; omega
  clear hb hx0 hx2 hx3 hn0 hn2 hc c0 c2 c3
  go_enter Tryz.func94, Tryz.ntmps94
  go_wp2_with fail
  generalize hW : w.alloc (.cells #[.int .i64 0, .int .i64 0, .int .u64 0, .slice none 0 0] 72) = W
  have hX : Box4 W w.heap.size (.int .i64 0) (.int .i64 0) (.int .u64 0) (.slice none 0 0) := by rw [← hW]; exact Box4.new _ _ _ _ _ _
  have hWs : W.heap.size = w.heap.size + 1 := by rw [← hW]; simp
  have hWb : Below w.heap.size w W := by rw [← hW]; go_grown
  have hBW : BytesAt W (.slice (some ⟨b, o, none⟩) l.length c) l := HB.out.below hWb
  clear hW
  go_cut [5] (fun s5 wx => s5 = .int .i64 ((Pg.num l 2 2 : Nat) : Int) ∧ Below W.heap.size W wx)
  case first =>
    have n2 := Later.cell (w := W) ((hWb.cell (p := ⟨b, o + 2, none⟩) l0).trans HC2.out)
    have n3 := Later.cell (w := W) ((hWb.cell (p := ⟨b, o + 3, none⟩) l0).trans HC3.out)
    have k1 : IntKind.i64.wrap (256 * (x3.toNat : Int)) = 256 * (x3.toNat : Int) := IntWalk.i64_in _ (by omega)
    have k2 : IntKind.i64.wrap ((x2.toNat : Int) + 256 * (x3.toNat : Int)) = (x2.toNat : Int) + 256 * (x3.toNat : Int) := IntWalk.i64_in _ (by omega)
    refine wp_region_later (by kernel_rfl) (by kernel_rfl) ?_
    repeat (first | go_big_quiet_step (fail) | quiet_step (fail))
    refine wpQuiet_nil ?_
    intro xw
    clear k1 k2
    go_wp2_with fail
    go_meet
    exact ⟨by rw [HN2.out], xw.below⟩
  case rest =>
    obtain ⟨rfl, hb1⟩ := hcut
    clear HC2 HC3 HN2
    obtain ⟨wx, hwx⟩ : ∃ x, x = wc := ⟨_, rfl⟩
    subst hwx
    have hX1 := hX.below hb1
    have hb1' := hWb.trans (hb1.mono (by omega))
    have HB1 := Lib.hid (HB.out.below hb1')
    have hs1 := hb1.size
    have hid0 : 0 ≤ numI l 4 4 := by unfold numI; omega
    have hn1 : Pg.num l 2 2 < 65536 := Pg.num_lt l 2 2
    generalize hn : Pg.num l 2 2 = n at *
    have HNN := Lib.hid hn
    clear hn
    by_cases hbad : l.length - 24 < n ∨ 255 < numI l 4 4
    · have HR : Hid (Pg.openL l = (Pg.zero, 5, if numI l 4 4 < 256 then numI l 4 4 else -1)) := Lib.hid (by
        have hno : ¬ Pg.opens l := fun h => by
          have := Pg.opens_len h
          rw [HNN.out] at this
          unfold numI at hbad
          simp at hbad
          omega
        unfold Pg.openL
        rw [if_neg (by unfold Pg.sized; simp; omega), if_neg hno]
        unfold Pg.named numI
        simp
        split <;> split <;> first | rfl | omega)
      have hcase : (numI l 4 4 < 256 ∧ (l.length : Int) - 24 < (n : Int)) ∨ (256 ≤ numI l 4 4 ∧ (l.length : Int) - 24 < (n : Int)) ∨ (¬ (l.length : Int) - 24 < (n : Int) ∧ 256 ≤ numI l 4 4) := by omega
      clear hbad
      obtain ⟨m0, m1, m2, m3, f0, f1, f2, f3⟩ := hX1
      rcases hcase with ⟨h1, h2⟩ | ⟨h1, h2⟩ | ⟨h1, h2⟩
      · rw [if_pos h1] at HR
        go_wp2_with (go_at_call 100; refine (refTake_num _ l _ _ _ HB1.out (by decide) (by decide) (by omega)).mono ?_; rintro e w1 ⟨rfl, rfl⟩)
        refine bodyPost_ret (v := .tuple #[zeroV, .int .i64 5, .int .i64 (numI l 4 4)]) (by simp [results, Tryz.results94, go_sem, m0, m1, m2, m3, zeroV]) rfl ?_
        rw [HR.out]
        exact ⟨zero_code, by go_grown⟩
      all_goals
        rw [if_neg (by omega)] at HR
        go_wp2_with (go_at_call 100; refine (refTake_num _ l _ _ _ HB1.out (by decide) (by decide) (by omega)).mono ?_; rintro e w1 ⟨rfl, rfl⟩)
        refine bodyPost_ret (v := .tuple #[zeroV, .int .i64 5, .int .i64 (-1)]) (by simp [results, Tryz.results94, go_sem, m0, m1, m2, m3, zeroV]) rfl ?_
        rw [HR.out]
        exact ⟨zero_code, by go_grown⟩
    · have h1 : numI l 4 4 < 256 := by omega
      have h2 : (n : Int) ≤ (l.length : Int) - 24 := by omega
      have HP : Hid (Pg.readL l = ⟨(x0.toNat : Int), numI l 4 4, Pg.num l 8 8, (l.drop 20).take n⟩) := Lib.hid (by
        unfold Pg.readL
        rw [HNN.out, HN0.out, if_pos (by omega)]
        rfl)
      have hcut := (HB1.out).cut 20 n (by omega)
      rw [show n = (20 + (n : Int)).toNat - 20 by omega] at hcut HP
      have HCUT := Lib.hid hcut
      have hL : ((l.drop 20).take ((20 + (n : Int)).toNat - 20)).length ≤ 1024 := by rw [List.length_take, List.length_drop]; omega
      generalize hLL : (l.drop 20).take ((20 + (n : Int)).toNat - 20) = L at *
      clear hbad hcut hLL
      go_wp2_with (go_at_call 100; refine (refTake_num _ l _ _ _ HB1.out (by decide) (by decide) (by omega)).mono ?_; rintro e w1 ⟨rfl, rfl⟩)
      go_cut [11] (fun s wy => ∃ r a2 c2, s = .pointer (some ⟨r, 0, none⟩) ∧ RefMid wx wy r (.int .i64 (Pg.readL l).kind) (.int .i64 (Pg.readL l).id) (.int .u64 ((Pg.readL l).gen : Int)) a2 c2 (Pg.readL l).body)
      case first =>
        have n0 := Near.cell (w := wx.drew) (row := none) (show wx.drew.cell? ⟨b, o, none⟩ = _ from (hb1'.cell (p := ⟨b, o + 0, none⟩) l0).trans HC0.out) (by simp)
        have k1 : IntKind.i64.wrap (20 + (n : Int)) = 20 + (n : Int) := IntWalk.i64_in _ (by omega)
        have k2 : (0 : Int) ≤ 20 + (n : Int) := by omega
        have k3 : 20 + (n : Int) ≤ (c : Int) := by omega
        have k4 : (20 : Int) ≤ 20 + (n : Int) := by omega
        have k7 : ¬ c = 20 := by omega
        have k8 : IntKind.i64.wrap (x0.toNat : Int) = (x0.toNat : Int) := IntWalk.i64_in _ (by omega)
        have k9 : IntKind.i64.wrap (numI l 4 4) = numI l 4 4 := IntWalk.i64_in _ (by omega)
        have k5 : 0 < l.length := by omega
        have k6 : l ≠ [] := fun e => by rw [e] at k5; cases k5
        refine wp_region_mix (fun w' => ∃ x : Near wx.drew none, w' = x.world) [] 16 (by kernel_rfl) rfl ?_
        refine mix_reads_lit [0, 1, 2, 3, 4, 5, 6, 8, 9, 10, 11] 5 (by kernel_rfl) (by kernel_rfl) (by kernel_rfl) (by kernel_rfl) rfl (NearC.of (World.grownBy.refl _ _)) ?_
        simp only [pick, List.filterMap_cons, List.filterMap_nil, List.getElem?_cons_succ, List.getElem?_cons_zero]
        repeat (first | go_big_quiet_step (fail) | quiet_step (fail))
        refine wpQuiet_nil ?_
        clear k1 k2 k3 k4 k5 k6 k7 k8 k9
        have hcD : BytesAt wx.drew _ L := HCUT.out.below (Below.refl _ _).drew
        have gb := World.grownBy.refl wx.drew none
        have gs : wx.drew.heap.size ≤ wx.drew.heap.size := Nat.le_refl _
        have HDG := Lib.hid (show wx.grownBy wx.drew none from grown_of_below (Below.refl _ _).drew (Nat.le_refl _) none)
        generalize hwd : wx.drew = D at *
        have HDS := Lib.hid (show D.heap.size = wx.heap.size by rw [← hwd]; rfl)
        clear hwd
        refine mix_two_lit 7 14 4 (by kernel_rfl) (by kernel_rfl) rfl (fun K hK => ?_) (fun K hK => ?_)
        · simp only [comesUp, List.getElem?_cons_succ, List.getElem?_cons_zero]
          refine if_mk rfl ?_
          go_simp
          obtain ⟨g, D1, eg, en, hg, kg, lg, mg⟩ := alloc_facts D (.cells #[] 5)
          rw [en, eg]
          clear en eg
          have gb' := grown_trans gb kg
          refine hK _ _ (fun _ _ => NearC.of gb') ?_
          clear hK K
          have gs : D.heap.size ≤ D1.heap.size := grown_size gb'
          clear gb
          have gb := gb'
          clear gb'
          have e1 := own_empty hg lg
          clear hg kg
          refine mix_two_lit 12 14 3 (by kernel_rfl) (by kernel_rfl) rfl (fun K hK => ?_) (fun K hK => ?_)
          · simp only [comesUp, List.getElem?_cons_succ, List.getElem?_cons_zero]
            refine if_mk rfl ?_
            refine step_append_bytes (.tmp 63) (.tmp 67) rfl D.heap.size (.slice (some ⟨g, 0, none⟩) 0 0) [] rfl e1 _ L rfl (bytes_grown hcD gb) (by simp; omega) gs ?_
            intro v2 D2 ho2 hg2
            rw [List.nil_append] at ho2
            have gb' := grown_new gb hg2 (fun k hk => by simp [Value.ownBlock] at hk; omega)
            refine hK _ _ (fun _ _ => NearC.of gb') ?_
            clear hK K
            have gs : D.heap.size ≤ D2.heap.size := grown_size gb'
            clear gb
            have gb := gb'
            clear gb'
            obtain ⟨a2, c2, rfl, -, -⟩ := ho2.slice
            refine mix_reads_lit [13] 2 (by kernel_rfl) (by kernel_rfl) (by kernel_rfl) (by kernel_rfl) rfl (NearC.of gb) ?_
            simp only [pick, List.filterMap_cons, List.filterMap_nil, List.getElem?_cons_succ, List.getElem?_cons_zero]
            repeat (first | go_big_quiet_step (fail) | quiet_step (fail))
            refine wpQuiet_nil ?_
            refine mix_deed_lit 14 1 (by kernel_rfl) (by kernel_rfl) rfl (fun K hK => ?_)
            simp only [comesUp, List.getElem?_cons_succ, List.getElem?_cons_zero]
            refine if_mk rfl ?_
            go_simp
            obtain ⟨r, D3, er, en, hr, kr, lr, mr⟩ := alloc_facts D2 (.cells #[.int .i64 0, .int .i64 0, .int .u64 0, .slice none 0 0] 72)
            rw [en, er]
            clear en er
            have gb' := grown_trans gb kr
            refine hK _ _ (fun _ _ => NearC.of gb') ?_
            clear hK K
            have gs : D.heap.size ≤ D3.heap.size := grown_size gb'
            clear gb
            have gb := gb'
            clear gb'
            have hne : (Value.slice a2 L.length c2).ownBlock = none ∨ (Value.slice a2 L.length c2).ownBlock ≠ some r := by
              right; intro e; have := (ho2.lt _ e).2; omega
            replace ho2 := own_grown ho2 kr
            have lr' : D.heap.size ≤ r := by omega
            clear hg2 kr lr mr e1 lg mg
            refine mix_deed_lit 15 0 (by kernel_rfl) (by kernel_rfl) rfl (fun K hK => ?_)
            simp only [comesUp, List.getElem?_cons_succ, List.getElem?_cons_zero]
            refine if_mk rfl ?_
            have s0 : D3.cell? ⟨r, 0, none⟩ = some (.int .i64 0) := by simp [World.cell?, hr]
            have s1 : D3.cell? ⟨r, 1, none⟩ = some (.int .i64 0) := by simp [World.cell?, hr]
            have s2 : D3.cell? ⟨r, 2, none⟩ = some (.int .u64 0) := by simp [World.cell?, hr]
            have s3 : D3.cell? ⟨r, 3, none⟩ = some (.slice none 0 0) := by simp [World.cell?, hr]
            have t0 : D3.frozen? ⟨r, 0, none⟩ = false := by simp [World.frozen?, hr]
            have t1 : D3.frozen? ⟨r, 1, none⟩ = false := by simp [World.frozen?, hr]
            have t2 : D3.frozen? ⟨r, 2, none⟩ = false := by simp [World.frozen?, hr]
            have t3 : D3.frozen? ⟨r, 3, none⟩ = false := by simp [World.frozen?, hr]
            have HFIN := Lib.hid (RefMid.mk' gb hr ho2 hne lr' (.int .i64 (x0.toNat : Int)) (.int .i64 (numI l 4 4)) (.int .u64 (numI l 8 8)))
            go_simp
            refine hK _ _ (fun _ _ => NearC.of HFIN.out.gb) ?_
            clear hK K
            refine mix_done_lit (by kernel_rfl) ?_
            clear s0 s1 s2 s3 t0 t1 t2 t3 hr ho2 hne gb gs
            go_wp2_with fail
            go_meet
            rw [HP.out]
            exact ⟨r, a2, c2, rfl, HFIN.out.back HDG.out HDS.out⟩
          · simp only [comesUp, List.getElem?_cons_succ, List.getElem?_cons_zero]
            refine if_mk rfl ?_
            go_simp
            obtain ⟨r, D2, er, en, hr, kr, lr, mr⟩ := alloc_facts D1 (.cells #[.int .i64 0, .int .i64 0, .int .u64 0, .slice none 0 0] 72)
            rw [en, er]
            clear en er
            have gb' := grown_trans gb kr
            refine hK _ _ (fun _ _ => NearC.of gb') ?_
            clear hK K
            have gs : D.heap.size ≤ D2.heap.size := grown_size gb'
            clear gb
            have gb := gb'
            clear gb'
            replace e1 := own_grown e1 kr
            refine mix_deed_lit 12 2 (by kernel_rfl) (by kernel_rfl) rfl (fun K hK => ?_)
            simp only [comesUp, List.getElem?_cons_succ, List.getElem?_cons_zero]
            refine if_mk rfl ?_
            refine step_append_bytes (.tmp 63) (.tmp 67) rfl D.heap.size (.slice (some ⟨g, 0, none⟩) 0 0) [] rfl e1 _ L rfl (bytes_grown hcD gb) (by simp; omega) gs ?_
            intro v2 D3 ho2 hg2
            rw [List.nil_append] at ho2
            have gb' := grown_new gb hg2 (fun k hk => by simp [Value.ownBlock] at hk; omega)
            refine hK _ _ (fun _ _ => NearC.of gb') ?_
            clear hK K
            have gs : D.heap.size ≤ D3.heap.size := grown_size gb'
            clear gb
            have gb := gb'
            clear gb'
            obtain ⟨a2, c2, rfl, -, -⟩ := ho2.slice
            refine mix_reads_lit [13] 1 (by kernel_rfl) (by kernel_rfl) (by kernel_rfl) (by kernel_rfl) rfl (NearC.of gb) ?_
            simp only [pick, List.filterMap_cons, List.filterMap_nil, List.getElem?_cons_succ, List.getElem?_cons_zero]
            repeat (first | go_big_quiet_step (fail) | quiet_step (fail))
            refine wpQuiet_nil ?_
            replace hr := heap_grown hr hg2 (by simp [Value.ownBlock]; omega)
            have hne := ownBlock_apart ho2 hr (by decide)
            have lr' : D.heap.size ≤ r := by omega
            clear hg2 kr lr mr e1 lg mg
            refine mix_deed_lit 15 0 (by kernel_rfl) (by kernel_rfl) rfl (fun K hK => ?_)
            simp only [comesUp, List.getElem?_cons_succ, List.getElem?_cons_zero]
            refine if_mk rfl ?_
            have s0 : D3.cell? ⟨r, 0, none⟩ = some (.int .i64 0) := by simp [World.cell?, hr]
            have s1 : D3.cell? ⟨r, 1, none⟩ = some (.int .i64 0) := by simp [World.cell?, hr]
            have s2 : D3.cell? ⟨r, 2, none⟩ = some (.int .u64 0) := by simp [World.cell?, hr]
            have s3 : D3.cell? ⟨r, 3, none⟩ = some (.slice none 0 0) := by simp [World.cell?, hr]
            have t0 : D3.frozen? ⟨r, 0, none⟩ = false := by simp [World.frozen?, hr]
            have t1 : D3.frozen? ⟨r, 1, none⟩ = false := by simp [World.frozen?, hr]
            have t2 : D3.frozen? ⟨r, 2, none⟩ = false := by simp [World.frozen?, hr]
            have t3 : D3.frozen? ⟨r, 3, none⟩ = false := by simp [World.frozen?, hr]
            have HFIN := Lib.hid (RefMid.mk' gb hr ho2 hne lr' (.int .i64 (x0.toNat : Int)) (.int .i64 (numI l 4 4)) (.int .u64 (numI l 8 8)))
            go_simp
            refine hK _ _ (fun _ _ => NearC.of HFIN.out.gb) ?_
            clear hK K
            refine mix_done_lit (by kernel_rfl) ?_
            clear s0 s1 s2 s3 t0 t1 t2 t3 hr ho2 hne gb gs
            go_wp2_with fail
            go_meet
            rw [HP.out]
            exact ⟨r, a2, c2, rfl, HFIN.out.back HDG.out HDS.out⟩
        · simp only [comesUp, List.getElem?_cons_succ, List.getElem?_cons_zero]
          refine if_mk rfl ?_
          go_simp
          obtain ⟨r, D1, er, en, hr, kr, lr, mr⟩ := alloc_facts D (.cells #[.int .i64 0, .int .i64 0, .int .u64 0, .slice none 0 0] 72)
          rw [en, er]
          clear en er
          have gb' := grown_trans gb kr
          refine hK _ _ (fun _ _ => NearC.of gb') ?_
          clear hK K
          have gs : D.heap.size ≤ D1.heap.size := grown_size gb'
          clear gb
          have gb := gb'
          clear gb'
          refine mix_deed_lit 7 3 (by kernel_rfl) (by kernel_rfl) rfl (fun K hK => ?_)
          simp only [comesUp, List.getElem?_cons_succ, List.getElem?_cons_zero]
          refine if_mk rfl ?_
          go_simp
          obtain ⟨g, D2, eg, en, hg, kg, lg, mg⟩ := alloc_facts D1 (.cells #[] 5)
          rw [en, eg]
          clear en eg
          have gb' := grown_trans gb kg
          refine hK _ _ (fun _ _ => NearC.of gb') ?_
          clear hK K
          have gs : D.heap.size ≤ D2.heap.size := grown_size gb'
          clear gb
          have gb := gb'
          clear gb'
          have e1 := own_empty (S := D.heap.size) hg (by omega)
          replace hr := heap_grown hr kg (by simp)
          refine mix_deed_lit 12 2 (by kernel_rfl) (by kernel_rfl) rfl (fun K hK => ?_)
          simp only [comesUp, List.getElem?_cons_succ, List.getElem?_cons_zero]
          refine if_mk rfl ?_
          refine step_append_bytes (.tmp 63) (.tmp 67) rfl D.heap.size (.slice (some ⟨g, 0, none⟩) 0 0) [] rfl e1 _ L rfl (bytes_grown hcD gb) (by simp; omega) gs ?_
          intro v2 D3 ho2 hg2
          rw [List.nil_append] at ho2
          have gb' := grown_new gb hg2 (fun k hk => by simp [Value.ownBlock] at hk; omega)
          refine hK _ _ (fun _ _ => NearC.of gb') ?_
          clear hK K
          have gs : D.heap.size ≤ D3.heap.size := grown_size gb'
          clear gb
          have gb := gb'
          clear gb'
          obtain ⟨a2, c2, rfl, -, -⟩ := ho2.slice
          refine mix_reads_lit [13] 1 (by kernel_rfl) (by kernel_rfl) (by kernel_rfl) (by kernel_rfl) rfl (NearC.of gb) ?_
          simp only [pick, List.filterMap_cons, List.filterMap_nil, List.getElem?_cons_succ, List.getElem?_cons_zero]
          repeat (first | go_big_quiet_step (fail) | quiet_step (fail))
          refine wpQuiet_nil ?_
          replace hr := heap_grown hr hg2 (by simp [Value.ownBlock]; omega)
          have hne := ownBlock_apart ho2 hr (by decide)
          have lr' : D.heap.size ≤ r := by omega
          clear hg2 kr lr mr e1 lg mg hg kg
          refine mix_deed_lit 15 0 (by kernel_rfl) (by kernel_rfl) rfl (fun K hK => ?_)
          simp only [comesUp, List.getElem?_cons_succ, List.getElem?_cons_zero]
          refine if_mk rfl ?_
          have s0 : D3.cell? ⟨r, 0, none⟩ = some (.int .i64 0) := by simp [World.cell?, hr]
          have s1 : D3.cell? ⟨r, 1, none⟩ = some (.int .i64 0) := by simp [World.cell?, hr]
          have s2 : D3.cell? ⟨r, 2, none⟩ = some (.int .u64 0) := by simp [World.cell?, hr]
          have s3 : D3.cell? ⟨r, 3, none⟩ = some (.slice none 0 0) := by simp [World.cell?, hr]
          have t0 : D3.frozen? ⟨r, 0, none⟩ = false := by simp [World.frozen?, hr]
          have t1 : D3.frozen? ⟨r, 1, none⟩ = false := by simp [World.frozen?, hr]
          have t2 : D3.frozen? ⟨r, 2, none⟩ = false := by simp [World.frozen?, hr]
          have t3 : D3.frozen? ⟨r, 3, none⟩ = false := by simp [World.frozen?, hr]
          have HFIN := Lib.hid (RefMid.mk' gb hr ho2 hne lr' (.int .i64 (x0.toNat : Int)) (.int .i64 (numI l 4 4)) (.int .u64 (numI l 8 8)))
          go_simp
          refine hK _ _ (fun _ _ => NearC.of HFIN.out.gb) ?_
          clear hK K
          refine mix_done_lit (by kernel_rfl) ?_
          clear s0 s1 s2 s3 t0 t1 t2 t3 hr ho2 hne gb gs
          go_wp2_with fail
          go_meet
          rw [HP.out]
          exact ⟨r, a2, c2, rfl, HFIN.out.back HDG.out HDS.out⟩
      case rest =>
        obtain ⟨r, a2, c2, rfl, hm⟩ := hcut
        have hsz9 : (256 : Int) ≤ (l.length : Int) ∧ (l.length : Int) ≤ 1024 := by omega
        have hid9 : (Pg.readL l).id = numI l 4 4 := rfl
        have hnm : Pg.named l = (Pg.readL l).id := by unfold Pg.named; rw [if_pos (by unfold numI at h1; simp at h1; omega)]; rfl
        have hgen := Pg.read_gen l
        have hbl : (Pg.readL l).body.length ≤ 1024 := by rw [HP.out]; exact hL
        rw [← hid9] at h1
        have hB0 := grown_below (B := w.heap.size + 1) hm.gb (by simp) (by omega)
        obtain ⟨m0, m1, m2, m3, f0, f1, f2, f3⟩ := box4_below hX1 hB0 (Nat.lt_succ_self _)
        obtain ⟨r0, r1, r2, r3, -, -, -, -⟩ := hm.box
        have HX := Lib.hid hX1
        have HM := Lib.hid hm
        have HBB := Lib.hid (hb1'.trans (hB0.mono (Nat.le_succ _)))
        have HID := Lib.hid hid9
        have HBL : Hid (BytesAt wc (.slice (some ⟨b, o, none⟩) l.length c) l) := Lib.hid (bytes_grown HB1.out hm.gb)
        have hrS := hm.le
        have hrl := hm.box.lt
        have hs8 := hm.gb.size
        have hne : w.heap.size < r := by omega
        clear hX1 hm hid9 hB0 HCUT HC0 HN0 hs8
        generalize hp : Pg.readL l = p at *
        have HPP := Lib.hid hp
        have HNM := Lib.hid hnm
        clear hp HP hnm hid0 HNN h2
        by_cases hck : Pg.checkC p l.length = 0
        · have HCK := Lib.hid hck
          clear hck
          cases hse : (Pg.sealL p l.length == l) with
          | false =>
            have HSE := Lib.hid hse
            have HOP : Hid (Pg.openL l = (Pg.zero, 5, numI l 4 4)) := Lib.hid (by
              unfold Pg.openL
              rw [if_neg (by unfold Pg.sized; simp; omega), if_neg (fun h => by have := h.2; rw [HPP.out] at this; rw [this] at hse; simp at hse), HNM.out, HID.out])
            clear hse
            go_wp2_with (first
              | (go_at_call 58; (refine (refCheck_is p a2 c2 _ 0 (by rw [HCK.out]; rfl) _ (by omega) (by omega)).mono ?_); (rintro e w3 ⟨rfl, hb3⟩); (have hs3 := hb3.size); (obtain ⟨r0', r1', r2', r3', -, -, -, -⟩ := HM.out.box.below hb3); (have HB3 := Lib.hid hb3); (clear hb3))
              | (go_at_call 27; (refine (refSeal_ok p a2 c2 l.length _ (HM.out.own.bytes.below HB3.out) HCK.out hgen).mono ?_); (rintro e w4 ⟨⟨a4, c4, rfl, ho4⟩, hb4⟩); (have HO4 := Lib.hid ho4); (have hs4 := hb4.size); (have HB4 := Lib.hid (below_step HB3.out hb4)); (clear hb4 ho4))
              | (go_at_call 16; (refine (same_is _ _ _ l false HSE.out _ HO4.out.bytes (HBL.out.below HB4.out)).mono ?_); (rintro e w5 ⟨rfl, hb5⟩); (have hs5 := hb5.size); (have HB5 := Lib.hid (below_step HB4.out hb5)); (obtain ⟨m0', m1', m2', m3', g0', g1', g2', g3'⟩ := (box4_below HX.out (HM.out.gb.below0 (by omega)) (Nat.lt_succ_self _)).below HB5.out); (clear hb5)))
            refine bodyPost_ret (v := .tuple #[zeroV, .int .i64 5, .int .i64 (numI l 4 4)]) (by simp [results, Tryz.results94, go_sem, m0', m1', m2', m3', zeroV]) rfl ?_
            have hbw := below_step HBB.out HB5.out
            rw [HOP.out]
            exact ⟨zero_code, by go_grown⟩
          | true =>
            have HSE := Lib.hid hse
            have HOP : Hid (Pg.openL l = (p, 0, -1)) := Lib.hid (by
              rw [Pg.open_page (show Pg.opens l from ⟨by rw [HPP.out]; exact HCK.out, by rw [HPP.out]; simpa using hse⟩), HPP.out])
            clear hse
            go_wp2_with (first
              | (go_at_call 58; (refine (refCheck_is p a2 c2 _ 0 (by rw [HCK.out]; rfl) _ (by omega) (by omega)).mono ?_); (rintro e w3 ⟨rfl, hb3⟩); (have hs3 := hb3.size); (obtain ⟨r0', r1', r2', r3', -, -, -, -⟩ := HM.out.box.below hb3); (have HB3 := Lib.hid hb3); (clear hb3))
              | (go_at_call 27; (refine (refSeal_ok p a2 c2 l.length _ (HM.out.own.bytes.below HB3.out) HCK.out hgen).mono ?_); (rintro e w4 ⟨⟨a4, c4, rfl, ho4⟩, hb4⟩); (have HO4 := Lib.hid ho4); (have hs4 := hb4.size); (have HB4 := Lib.hid (below_step HB3.out hb4)); (clear hb4 ho4))
              | (go_at_call 16; (refine (same_is _ _ _ l true HSE.out _ HO4.out.bytes (HBL.out.below HB4.out)).mono ?_); (rintro e w5 ⟨rfl, hb5⟩); (have hs5 := hb5.size); (have HB5 := Lib.hid (below_step HB4.out hb5)); (obtain ⟨m0', m1', m2', m3', g0', g1', g2', g3'⟩ := (box4_below HX.out (HM.out.gb.below0 (by omega)) (Nat.lt_succ_self _)).below HB5.out); (obtain ⟨q0', q1', q2', q3', -, -, -, -⟩ := HM.out.box.below HB5.out); (clear hb5)))
            refine bodyPost_ret (v := .tuple #[pageV p (.slice a2 p.body.length c2), .int .i64 0, .int .i64 (-1)]) (by simp [results, Tryz.results94, go_sem, m0', m1', m2', m3', q0', q1', q2', q3', pageV]) rfl ?_
            have hbw := below_step HBB.out HB5.out
            have hoo := HM.out.own.below HB5.out (Nat.le_refl _)
            have hle := hb1'.size
            have hl1 : w.heap.size < wx.heap.size := by omega
            rw [HOP.out]
            refine ⟨⟨a2, c2, rfl, ?_⟩, by go_grown⟩
            exact (Own.setLow (Own.setLow (Own.setLow (Own.setLow hoo _ hl1) _ hl1) _ hl1) _ hl1).mono hle
        · have HCK : Hid (Pg.checkC p l.length = 1) := Lib.hid (by
            unfold Pg.checkC at hck ⊢
            rw [if_neg (by unfold Pg.sized; simp; omega)] at hck ⊢
            split at hck
            · rw [if_pos (by assumption)]
            · exact absurd rfl hck)
          have HOP : Hid (Pg.openL l = (Pg.zero, 5, numI l 4 4)) := Lib.hid (by
            unfold Pg.openL
            rw [if_neg (by unfold Pg.sized; simp; omega), if_neg (fun h => hck (by have := h.1; rwa [HPP.out] at this)), HNM.out, HID.out])
          clear hck
          go_wp2_with (go_at_call 58; (refine (refCheck_is p a2 c2 _ 1 (by rw [HCK.out]; rfl) _ (by omega) (by omega)).mono ?_); (rintro e w3 ⟨rfl, hb3⟩); (have hs3 := hb3.size); (obtain ⟨r0', r1', r2', r3', -, -, -, -⟩ := HM.out.box.below hb3); (have HB3 := Lib.hid hb3); (obtain ⟨m0', m1', m2', m3', g0', g1', g2', g3'⟩ := (box4_below HX.out (HM.out.gb.below0 (by omega)) (Nat.lt_succ_self _)).below HB3.out); (clear hb3))
          refine bodyPost_ret (v := .tuple #[zeroV, .int .i64 5, .int .i64 (numI l 4 4)]) (by simp [results, Tryz.results94, go_sem, m0', m1', m2', m3', zeroV]) rfl ?_
          have hbw := below_step HBB.out HB3.out
          rw [HOP.out]
          exact ⟨zero_code, by go_grown⟩

/-- what the document's Open tells -/
theorem refOpen_any (a : Option Addr) (c : Nat) (l : List UInt8) (w : World) (hb : BytesAt w (.slice a l.length c) l) :
    Calls Tryz.prog 94 #[.slice a l.length c] w fun e w' => OpenCode w (Pg.openL l) e w' ∧ Below w.heap.size w w' := by
  have hm : l.length ≤ 9223372036854775807 := by
    obtain ⟨a', c', e, q1, q2, _⟩ := hb
    unfold maxLen at q2
    omega
  cases hz : Pg.sized l.length with
  | false =>
    rw [show Pg.openL l = (Pg.zero, 2, -1) by unfold Pg.openL; rw [if_pos hz]]
    exact refOpen_size a c l w hz hm
  | true =>
    have h2 : 256 ≤ l.length ∧ l.length ≤ 1024 := by unfold Pg.sized at hz; simp at hz; omega
    obtain ⟨b, o, rfl⟩ := slice_some hb (by omega)
    exact refOpen_main b o c l w hb h2
end Go.Proofs.YtflbioiildndoaaGreatDoor

/- pages: the document's OpenAt -/
namespace Go.Proofs.YtflbioiildndoaaGreatDoor
open Go.RowKit
set_option linter.unusedVariables false
set_option linter.unusedSimpArgs false

theorem refOpen_fail (a : Option Addr) (c : Nat) (l : List UInt8) (w : World) (hb : BytesAt w (.slice a l.length c) l) (h : ¬ Pg.opens l) (K X : Int) (hK : ((Pg.openL l).2.1 : Int) = K) (hX : (Pg.openL l).2.2 = X) :
    Calls Tryz.prog 94 #[.slice a l.length c] w fun e w' => (∃ a1 c1, e = .returned (.tuple #[.agg #[.int .i64 0, .int .i64 0, .int .u64 0, .slice a1 0 c1], .int .i64 K, .int .i64 X]) ∧ Own w' w.heap.size (.slice a1 0 c1) []) ∧ Below w.heap.size w w' := by
  subst hK hX
  refine (refOpen_any a c l w hb).mono fun e w' ⟨⟨a1, c1, he, ho⟩, hb⟩ => ⟨?_, hb⟩
  rw [Pg.open_not h] at he ho
  exact ⟨a1, c1, he, ho⟩
theorem refOpen_good (a : Option Addr) (c : Nat) (l : List UInt8) (p : Pg.Page) (hp : Pg.readL l = p) (w : World) (hb : BytesAt w (.slice a l.length c) l) (h : Pg.opens l) :
    Calls Tryz.prog 94 #[.slice a l.length c] w fun e w' => (∃ a1 c1, e = .returned (.tuple #[.agg #[.int .i64 p.kind, .int .i64 p.id, .int .u64 (p.gen : Int), .slice a1 p.body.length c1], .int .i64 0, .int .i64 (-1)]) ∧ Own w' w.heap.size (.slice a1 p.body.length c1) p.body) ∧ Below w.heap.size w w' := by
  subst hp
  refine (refOpen_any a c l w hb).mono fun e w' ⟨⟨a1, c1, he, ho⟩, hb⟩ => ⟨?_, hb⟩
  rw [Pg.open_page h] at he ho
  exact ⟨a1, c1, he, ho⟩

set_option maxRecDepth 100000 in
set_option maxHeartbeats 2000000 in
theorem refOpenAt_fail (a : Option Addr) (c : Nat) (l : List UInt8) (id : Int) (w : World) (hb : BytesAt w (.slice a l.length c) l) (h : ¬ Pg.opens l) :
    Calls Tryz.prog 81 #[.slice a l.length c, .int .i64 id] w fun e w' => OpenCode w (Pg.openL l) e w' ∧ Below w.heap.size w w' := by
  have HB := Lib.hid hb
  have HN := Lib.hid h
  obtain ⟨K, hK⟩ : ∃ K : Int, ((Pg.openL l).2.1 : Int) = K := ⟨_, rfl⟩
  obtain ⟨X, hX⟩ : ∃ X : Int, (Pg.openL l).2.2 = X := ⟨_, rfl⟩
  have hk : (K != 0) = true := by
    have : (Pg.openL l).2.1 ≠ 0 := fun h0 => h ((Pg.open_code l).1 h0)
    simp
    omega
  have HK := Lib.hid hK
  have HX := Lib.hid hX
  clear hb h hK hX
  go_enter Tryz.func81, Tryz.ntmps81
  go_wp2_with (go_at_call 94; (refine (refOpen_fail a c l _ (HB.out.alloc _) HN.out K X HK.out HX.out).mono ?_); (rintro e w1 ⟨⟨a1, c1, rfl, ho1⟩, hb1⟩); (have HO1 := Lib.hid ho1); (have HX1 := Lib.hid ((Box4.new _ _ _ _ _ _).below hb1)); (obtain ⟨m0, m1, m2, m3, f0, f1, f2, f3⟩ := HX1.out); (have hs1 := hb1.size); (simp only [World.size_alloc] at hs1); (have hbw1 : Below w.heap.size w w1 := (show Below w.heap.size w _ by go_grown).trans (hb1.mono (by simp))); (have k1 : w.heap.size < w1.heap.size := by omega); (have k2 : ¬ w1.heap.size = w.heap.size := Nat.ne_of_gt k1); (have k3 : ¬ w.heap.size = w1.heap.size := Nat.ne_of_lt k1); (clear ho1 hb1))
  refine bodyPost_ret (v := .tuple #[.agg #[.int .i64 0, .int .i64 0, .int .u64 0, .slice a1 0 c1], .int .i64 K, .int .i64 X]) (by simp [results, Tryz.results81, go_sem, m0, m1, m2, m3, k1, k2, k3]) rfl ?_
  refine ⟨⟨a1, c1, ?_, ?_⟩, by go_grown⟩
  · rw [Pg.open_not HN.out, ← HK.out, ← HX.out]; rfl
  · rw [Pg.open_not HN.out]
    exact ((Own.setLow (Own.setLow (Own.setLow (Own.setLow HO1.out _ (by simp)) _ (by simp)) _ (by simp)) _ (by simp)).alloc _).mono (by simp)
set_option maxRecDepth 100000 in
set_option maxHeartbeats 2000000 in
theorem refOpenAt_good (a : Option Addr) (c : Nat) (l : List UInt8) (id : Int) (w : World) (hb : BytesAt w (.slice a l.length c) l) (h : Pg.opens l) :
    Calls Tryz.prog 81 #[.slice a l.length c, .int .i64 id] w fun e w' => OpenCode w (if (Pg.readL l).id ≠ id then (Pg.zero, 5, max id (-1)) else (Pg.readL l, 0, -1)) e w' ∧ Below w.heap.size w w' := by
  have HB := Lib.hid hb
  have HN := Lib.hid h
  generalize hp : Pg.readL l = p at *
  have HP := Lib.hid hp
  clear hb h hp
  by_cases hid : p.id = id
  · rw [if_neg (by simpa using hid)]
    have hne2 : (p.id != id) = false := by simpa using hid
    clear hid
    go_enter Tryz.func81, Tryz.ntmps81
    go_wp2_with (go_at_call 94; (refine (refOpen_good a c l p HP.out _ (HB.out.alloc _) HN.out).mono ?_); (rintro e w1 ⟨⟨a1, c1, rfl, ho1⟩, hb1⟩); (have HO1 := Lib.hid ho1); (have HX1 := Lib.hid ((Box4.new _ _ _ _ _ _).below hb1)); (obtain ⟨m0, m1, m2, m3, f0, f1, f2, f3⟩ := HX1.out); (have hs1 := hb1.size); (simp only [World.size_alloc] at hs1); (have hbw1 : Below w.heap.size w w1 := (show Below w.heap.size w _ by go_grown).trans (hb1.mono (by simp))); (have k1 : w.heap.size < w1.heap.size := by omega); (have k2 : ¬ w1.heap.size = w.heap.size := Nat.ne_of_gt k1); (have k3 : ¬ w.heap.size = w1.heap.size := Nat.ne_of_lt k1); (clear ho1 hb1))
    refine bodyPost_ret (v := .tuple #[pageV p (.slice a1 p.body.length c1), .int .i64 0, .int .i64 (-1)]) (by simp [results, Tryz.results81, go_sem, m0, m1, m2, m3, pageV, k1, k2, k3]) rfl ?_
    refine ⟨⟨a1, c1, rfl, ?_⟩, by go_grown⟩
    exact ((Own.setLow (Own.setLow (Own.setLow (Own.setLow HO1.out _ (by simp)) _ (by simp)) _ (by simp)) _ (by simp)).alloc _).mono (by simp)
  · rw [if_pos (by simpa using hid)]
    rcases (show (id < -1 ∧ max id (-1) = -1) ∨ (-1 ≤ id ∧ max id (-1) = id) by omega) with ⟨hm, hmx⟩ | ⟨hm, hmx⟩
    · have HMX := Lib.hid hmx
      clear hmx
      have hne2 : (p.id != id) = true := by simpa using hid
      clear hid
      go_enter Tryz.func81, Tryz.ntmps81
      go_wp2_with (go_at_call 94; (refine (refOpen_good a c l p HP.out _ (HB.out.alloc _) HN.out).mono ?_); (rintro e w1 ⟨⟨a1, c1, rfl, ho1⟩, hb1⟩); (have HX1 := Lib.hid ((Box4.new _ _ _ _ _ _).below hb1)); (obtain ⟨m0, m1, m2, m3, f0, f1, f2, f3⟩ := HX1.out); (have hs1 := hb1.size); (simp only [World.size_alloc] at hs1); (have hbw1 : Below w.heap.size w w1 := (show Below w.heap.size w _ by go_grown).trans (hb1.mono (by simp))); (have k1 : w.heap.size < w1.heap.size := by omega); (have k2 : ¬ w1.heap.size = w.heap.size := Nat.ne_of_gt k1); (have k3 : ¬ w.heap.size = w1.heap.size := Nat.ne_of_lt k1); (clear ho1 hb1))
      all_goals refine bodyPost_ret (v := .tuple #[zeroV, .int .i64 5, .int .i64 (-1)]) (by simp [results, Tryz.results81, go_sem, m0, m1, m2, m3, zeroV, k1, k2, k3]) rfl ?_
      all_goals exact ⟨by rw [HMX.out]; exact zero_code, by go_grown⟩
    · have HMX := Lib.hid hmx
      clear hmx
      have hne2 : (p.id != id) = true := by simpa using hid
      clear hid
      go_enter Tryz.func81, Tryz.ntmps81
      go_wp2_with (go_at_call 94; (refine (refOpen_good a c l p HP.out _ (HB.out.alloc _) HN.out).mono ?_); (rintro e w1 ⟨⟨a1, c1, rfl, ho1⟩, hb1⟩); (have HX1 := Lib.hid ((Box4.new _ _ _ _ _ _).below hb1)); (obtain ⟨m0, m1, m2, m3, f0, f1, f2, f3⟩ := HX1.out); (have hs1 := hb1.size); (simp only [World.size_alloc] at hs1); (have hbw1 : Below w.heap.size w w1 := (show Below w.heap.size w _ by go_grown).trans (hb1.mono (by simp))); (have k1 : w.heap.size < w1.heap.size := by omega); (have k2 : ¬ w1.heap.size = w.heap.size := Nat.ne_of_gt k1); (have k3 : ¬ w.heap.size = w1.heap.size := Nat.ne_of_lt k1); (clear ho1 hb1))
      all_goals refine bodyPost_ret (v := .tuple #[zeroV, .int .i64 5, .int .i64 id]) (by simp [results, Tryz.results81, go_sem, m0, m1, m2, m3, zeroV, k1, k2, k3]) rfl ?_
      all_goals exact ⟨by rw [HMX.out]; exact zero_code, by go_grown⟩
theorem refOpenAt_any (a : Option Addr) (c : Nat) (l : List UInt8) (id : Int) (w : World) (hb : BytesAt w (.slice a l.length c) l) :
    Calls Tryz.prog 81 #[.slice a l.length c, .int .i64 id] w fun e w' => OpenCode w (Pg.openAtL l id) e w' ∧ Below w.heap.size w w' := by
  unfold Pg.openAtL
  by_cases h : Pg.opens l
  · rw [if_neg (by rw [(Pg.open_code l).2 h]; decide), Pg.open_page h]
    exact refOpenAt_good a c l id w hb h
  · rw [if_pos (fun h0 => h ((Pg.open_code l).1 h0))]
    exact refOpenAt_fail a c l id w hb h
end Go.Proofs.YtflbioiildndoaaGreatDoor
