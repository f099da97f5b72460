/- merged: PageOpen, PageOpen2, PageOpen3 -/
import Derived.Test.YtflbioiildndoaaGreatDoorQ6
/- pages: the walks of slices.Equal, slices.Clone, page.read, page.Open -/
namespace Go.Proofs.YtflbioiildndoaaGreatDoor
open Go.RowKit
set_option linter.unusedVariables false
set_option linter.unusedSimpArgs false

theorem equal_any (v1 v2 : Value) (l1 l2 : List UInt8) (w : World) (h1 : BytesAt w v1 l1) (h2 : BytesAt w v2 l2) :
    Calls Tryz.prog 102 #[v1, v2] w fun e w' => e = .returned (.bool (l1 == l2)) ∧ Below w.heap.size w w' := by
  have H1 : Hid (BytesAt w v1 l1) := h1
  have H2 : Hid (BytesAt w v2 l2) := h2
  obtain ⟨a1, c1, rfl, hlc1, hcm1, hl1⟩ := h1
  obtain ⟨a2, c2, rfl, hlc2, hcm2, hl2⟩ := h2
  unfold maxLen at hcm1 hcm2
  have HL1 := Lib.hid hl1
  have HL2 := Lib.hid hl2
  clear hl1 hl2
  by_cases hne : l1.length = l2.length
  · have ht : ((l1.length : Int) != (l2.length : Int)) = false := by simp [hne]
    have HN := Lib.hid hne
    clear hne
    go_enter Tryz.func102, Tryz.ntmps102
    go_wp2
    go_loopw [13] (fun i wr => ∃ k : Nat, k ≤ l1.length ∧ i = .int .i64 k ∧ l1.take k = l2.take k ∧ Below w.heap.size w wr) (fun i _ => l1.length - (intOf i).toNat)
    case atStart => exact ⟨0, by omega, rfl, by simp, Below.refl _ _⟩
    case round =>
      obtain ⟨k, hk, rfl, htk, hbel⟩ := hrel
      have HT := Lib.hid htk
      clear htk
      by_cases hlt : k < l1.length
      · obtain ⟨x, hx⟩ := getElem?_some_of_lt hlt
        obtain ⟨y, hy⟩ := getElem?_some_of_lt (show k < l2.length by rw [← HN.out]; exact hlt)
        have hlt2 : (k : Int) < (l2.length : Int) := by have := HN.out; omega
        have hlt1 : (k : Int) < (l1.length : Int) := by omega
        rcases HL1.out with hn | ⟨b1, o1, rfl, hc1⟩
        · rw [hn] at hlt; simp at hlt
        rcases HL2.out with hn | ⟨b2, o2, rfl, hc2⟩
        · rw [hn] at hlt2; simp at hlt2; omega
        have hcx := Later.cell (w := wr) ((hbel.cell (World.block_lt_of_cell? w _ (hc1 k x hx))).trans (hc1 k x hx))
        have hcy := Later.cell (w := wr) ((hbel.cell (World.block_lt_of_cell? w _ (hc2 k y hy))).trans (hc2 k y hy))
        have HX := Lib.hid hx
        have HY := Lib.hid hy
        clear hx hy hc1 hc2
        go_wp2
        refine wp_region_later (by kernel_rfl) (by kernel_rfl) ?_
        repeat (first | go_big_quiet_step (fail) | quiet_step (fail))
        refine wpQuiet_nil ?_
        intro xw
        have hxb := xw.below
        go_wp2
        · have hne : (((x.toNat : Int)) != (y.toNat : Int)) = true := by assumption
          go_ret
          refine ⟨ret_bool ?_, hbel.trans (hxb.mono hbel.size)⟩
          symm
          rw [beq_eq_false_iff_ne]
          intro e
          have h1 := HX.out
          rw [e, HY.out] at h1
          simp at h1
          subst h1
          simp at hne
        · have heq : (((x.toNat : Int)) != (y.toNat : Int)) = false := by assumption
          have hxy : x = y := by
            have h0 : (x.toNat : Int) = (y.toNat : Int) := by simpa using heq
            exact UInt8.toNat_inj.1 (by omega)
          go_roundw
          case rel => exact ⟨k + 1, by omega, by go_num, take_eq_succ HT.out HX.out HY.out hxy, hbel.trans (hxb.mono hbel.size)⟩
          case measure => simp [intOf]; omega
      · have hk2 : k = l1.length := by omega
        subst hk2
        go_wp2
        go_ret
        refine ⟨ret_bool ?_, hbel⟩
        symm
        rw [beq_iff_eq]
        have h1 := HT.out
        rwa [List.take_length, HN.out, List.take_length] at h1
  · have ht : ((l1.length : Int) != (l2.length : Int)) = true := by simp; omega
    go_enter Tryz.func102, Tryz.ntmps102
    go_wp2
    go_ret
    exact ⟨ret_bool (by symm; rw [beq_eq_false_iff_ne]; exact fun e => hne (by rw [e])), Below.refl _ _⟩

def GivesOwn (w : World) (l : List UInt8) (e : Ending) (w' : World) : Prop := ∃ a c, e = .returned (.slice a l.length c) ∧ Own w' w.heap.size (.slice a l.length c) l
set_option maxRecDepth 100000 in
theorem clone_any (b o n c : Nat) (l : List UInt8) (w : World) (hb : BytesAt w (.slice (some ⟨b, o, none⟩) n c) l) (hlen : l.length ≤ 140737488351232) :
    Calls Tryz.prog 105 #[.slice (some ⟨b, o, none⟩) n c] w fun e w' => GivesOwn w l e w' ∧ Below w.heap.size w w' := by
  have HB := Lib.hid hb
  have hq : ∀ wq, (binOp .eql 53 (.slice (some ⟨b, o, none⟩) n c) (.slice none 0 0)).run Tryz.prog wq = .ok (.bool false) wq := fun wq => by
    simp only [binOp]
    simp [Op.equal, Op.maxDepth, Lib.run_equalIn_slice_nil (P := Tryz.prog) wq 9999 53 5 (some ⟨b, o, none⟩) n c 0 0 (by kernel_rfl)]
  clear hb
  go_enter Tryz.func105, Tryz.ntmps105
  go_wp2_with (at_builtin; refine wpList_append_bytes rfl (.tmp 5) (.tmp 6) rfl w.heap.size _ [] rfl (Own.empty w w.heap.size (Nat.le_refl _)) _ l rfl (HB.out.alloc _) ?q1 ?q2 ?_)
  case q1 => simp; omega
  case q2 => simp
  intro v2 w2 ho2 hg2 _
  have HO2 := Lib.hid ho2
  have hb2 := (Below.refl w.heap.size w).alloc (Nat.le_refl _) (.cells #[] 5) |>.grown hg2 (by simp) (fun k hk => by simp [Value.ownBlock] at hk; omega)
  obtain ⟨a2, c2, hv2, _, _⟩ := ho2.slice
  have HB2 := Lib.hid hb2
  try simp only [List.nil_append] at hv2
  try simp only [List.nil_append] at HO2
  rw [hv2] at HO2 ⊢
  clear ho2 hg2 hb2 hv2
  go_wp2
  go_ret
  exact ⟨⟨a2, c2, rfl, HO2.out⟩, HB2.out⟩

/-- a store below what is owned -/
theorem Own.setLow {w : World} {base g j : Nat} {v : Value} {l : List UInt8} (h : Own w base v l) (u : Value) (hg : g < base) : Own (w.setCell ⟨g, j, none⟩ u) base v l :=
  h.keep (grownBy_set (World.grownBy.refl w (some g)) j u) hg
/-- a number of a block -/
def numI (l : List UInt8) (A X : Int) : Int := ((Pg.num l A.toNat X.toNat : Nat) : Int)
theorem take_num (v : Value) (l : List UInt8) (A X : Int) (w : World) (hb : BytesAt w v l) (hx : Fld.right X = true) (hA : 0 ≤ A) (hat : A + X ≤ l.length) :
    Calls Tryz.prog 104 #[v, .int .i64 A, .int .i64 X] w fun e w' => e = .returned (.tuple #[.int .u64 (numI l A X), .nilIface]) ∧ w = w' := by
  obtain ⟨m, rfl⟩ : ∃ m : Nat, X = (m : Int) := ⟨X.toNat, by rcases Fld.right_cases hx with h | h | h | h <;> omega⟩
  obtain ⟨p, rfl⟩ : ∃ p : Nat, A = (p : Int) := ⟨A.toNat, by omega⟩
  exact take_ok v l p m w hb hx (by omega)

/-- a page of new memory -/
def GivesPage (w : World) (l : List UInt8) (e : Ending) (w' : World) : Prop :=
  ∃ a c, e = .returned (pageV (Pg.readL l) (.slice a (Pg.readL l).body.length c)) ∧ Own w' w.heap.size (.slice a (Pg.readL l).body.length c) (Pg.readL l).body
set_option maxRecDepth 100000 in
set_option maxHeartbeats 2000000 in
theorem read_any (b o c : Nat) (l : List UInt8) (w : World) (hb : BytesAt w (.slice (some ⟨b, o, none⟩) l.length c) l) (h1 : 24 ≤ l.length) (h2 : l.length ≤ 1024) :
    Calls Tryz.prog 101 #[.slice (some ⟨b, o, none⟩) l.length c] w fun e w' => GivesPage w l e w' ∧ Below w.heap.size w w' := by
  have hb1 := (hb.alloc (.cells #[.int .i64 0, .int .i64 0, .int .u64 0, .slice none 0 0] 72))
  have HB := Lib.hid hb1
  have hcc : l.length ≤ c ∧ c ≤ maxLen := by
    obtain ⟨a', c', e, q1, q2, _⟩ := hb
    simp only [Value.slice.injEq] at e
    obtain ⟨_, _, rfl⟩ := e
    exact ⟨q1, q2⟩
  unfold maxLen at hcc
  have hk : 0 ≤ numI l 0 1 ∧ numI l 0 1 < 256 := by have := Pg.num_lt l 0 1; unfold numI; simp; omega
  have hi : 0 ≤ numI l 4 4 ∧ numI l 4 4 < 4294967296 := by have := Pg.num_lt l 4 4; unfold numI; simp; omega
  have hn : 0 ≤ numI l 2 2 ∧ numI l 2 2 < 65536 := by have := Pg.num_lt l 2 2; unfold numI; simp; omega
  have hg : 0 ≤ numI l 8 8 ∧ numI l 8 8 < 18446744073709551616 := by have := Pg.num_lt l 8 8; unfold numI; simp; omega
  have HR := Lib.hid (show Pg.readL l = ⟨numI l 0 1, numI l 4 4, (numI l 8 8).toNat, if Pg.num l 2 2 ≤ l.length - 24 then (l.drop 20).take (Pg.num l 2 2) else []⟩ from rfl)
  by_cases hle : Pg.num l 2 2 ≤ l.length - 24
  · have hle' : numI l 2 2 ≤ (l.length : Int) - 24 := by unfold numI; simp; omega
    have hcut := (hb1.cut 20 (Pg.num l 2 2) (by omega)).alloc (.cells #[.int .i64 (numI l 0 1), .int .i64 (numI l 4 4), .int .u64 (numI l 8 8), .slice none 0 0] 72)
    rw [show Pg.num l 2 2 = (20 + numI l 2 2).toNat - 20 by unfold numI; simp; omega] at hcut
    have HCUT := Lib.hid hcut
    have hL : ((l.drop 20).take ((20 + numI l 2 2).toNat - 20)).length ≤ 1024 := by rw [List.length_take, List.length_drop]; omega
    have HR2 := Lib.hid (show (if Pg.num l 2 2 ≤ l.length - 24 then (l.drop 20).take (Pg.num l 2 2) else []) = (l.drop 20).take ((20 + numI l 2 2).toNat - 20) by rw [if_pos hle]; congr 1; unfold numI; simp; omega)
    rw [HR2.out] at HR
    generalize hLL : (l.drop 20).take ((20 + numI l 2 2).toNat - 20) = L at *
    clear hb hb1 hcut hLL HR2 hle
    go_enter Tryz.func101, Tryz.ntmps101
    go_wp2_with (first
      | (go_at_call 104; refine (take_num _ l _ _ _ HB.out (by decide) (by decide) (by omega)).mono ?_; rintro e w1 ⟨rfl, rfl⟩)
      | (go_at_call 105; refine (clone_any b _ _ _ L _ HCUT.out (by omega)).mono ?_; rintro e w1 ⟨⟨a2, c2, rfl, ho⟩, hbl⟩; obtain ⟨bc, bf⟩ := bcellB hbl; have HO := Lib.hid ho; have HBL := Lib.hid hbl; have hsz := hbl.size; clear ho hbl))
    simp only [World.size_alloc] at hsz
    have m0 : w1.cell? ⟨w.heap.size, 0, none⟩ = some (.int .i64 0) := by rw [bc _ _ (by simp; omega)]; go_simp
    have m1 : w1.cell? ⟨w.heap.size, 1, none⟩ = some (.int .i64 0) := by rw [bc _ _ (by simp; omega)]; go_simp
    have m2 : w1.cell? ⟨w.heap.size, 2, none⟩ = some (.int .u64 0) := by rw [bc _ _ (by simp; omega)]; go_simp
    have m3 : w1.cell? ⟨w.heap.size, 3, none⟩ = some (.slice none 0 0) := by rw [bc _ _ (by simp; omega)]; go_simp
    refine bodyPost_ret (v := .agg #[.int .i64 (numI l 0 1), .int .i64 (numI l 4 4), .int .u64 (numI l 8 8), .slice a2 L.length c2]) (by simp [results, Tryz.results101, go_sem, m0, m1, m2, m3]) rfl ?_
    refine ⟨⟨a2, c2, by rw [HR.out]; simp only [pageV]; rw [Int.toNat_of_nonneg hg.1], ?_⟩, (show Below w.heap.size w w1 from (show Below w.heap.size w _ by go_grown).trans (HBL.out.mono (by simp; omega))) |> fun h => by go_grown⟩
    rw [HR.out]
    simp only
    refine (Own.setLow (Own.setLow (Own.setLow (Own.setLow (Own.setLow HO.out _ ?q1) _ ?q2) _ ?q3) _ ?q4) _ ?q5).mono ?q9
    all_goals (simp; try omega)
  · have hle' : ¬ numI l 2 2 ≤ (l.length : Int) - 24 := by unfold numI; simp; omega
    rw [if_neg hle] at HR
    clear hb hb1 hle
    go_enter Tryz.func101, Tryz.ntmps101
    go_wp2_with (go_at_call 104; refine (take_num _ l _ _ _ HB.out (by decide) (by decide) (by omega)).mono ?_; rintro e w1 ⟨rfl, rfl⟩)
    refine bodyPost_ret (v := .agg #[.int .i64 (numI l 0 1), .int .i64 (numI l 4 4), .int .u64 (numI l 8 8), .slice none 0 0]) (by simp [results, Tryz.results101, go_sem]) rfl ?_
    exact ⟨⟨none, 0, by rw [HR.out]; simp only [pageV]; rw [Int.toNat_of_nonneg hg.1]; rfl, by rw [HR.out]; exact Own.nil _ _⟩, by go_grown⟩
end Go.Proofs.YtflbioiildndoaaGreatDoor

/- pages: the walks of page.Open, page.OpenAt -/
namespace Go.Proofs.YtflbioiildndoaaGreatDoor
open Go.RowKit
set_option linter.unusedVariables false
set_option linter.unusedSimpArgs false

/-- a store below what a chain lies on -/
theorem ErrIs.setLow {w : World} {A : Nat → Addr} {B g j : Nat} {l : List Int} {k : Nat} {v : Value} (h : ErrIs w A B l k v) (u : Value) (hg : g < B) : ErrIs (w.setCell ⟨g, j, none⟩ u) A B l k v :=
  h.grown (grownBy_set (World.grownBy.refl w (some g)) j u) (fun k hk => by simp at hk; omega)
/-- what Open tells: a page, an error of a code, the page that the error names -/
def OpenErr (m : Nat) (w : World) (A : Nat → Addr) (r : Pg.Page × Nat × Int) (e : Ending) (w' : World) : Prop :=
  ∃ a c ev lp, e = .returned (.tuple #[pageV r.1 (.slice a r.1.body.length c), ev]) ∧ Own w' w.heap.size (.slice a r.1.body.length c) r.1.body ∧ ErrIs w' A w.heap.size lp r.2.1 ev ∧ pageOf lp = r.2.2 ∧ lp.length ≤ m
def zeroV : Value := .agg #[.int .i64 0, .int .i64 0, .int .u64 0, .slice none 0 0]
theorem zero_open {m : Nat} {w w' : World} {A : Nat → Addr} {k : Nat} {x : Int} {ev : Value} {lp : List Int} (h : ErrIs w' A w.heap.size lp k ev) (h1 : pageOf lp = x) (h2 : lp.length ≤ m) :
    OpenErr m w A (Pg.zero, k, x) (.returned (.tuple #[zeroV, ev])) w' := ⟨none, 0, ev, lp, rfl, Own.nil _ _, h, h1, h2⟩

theorem slice_some {w : World} {a : Option Addr} {n c : Nat} {l : List UInt8} (h : BytesAt w (.slice a n c) l) (hn : 0 < l.length) : ∃ b o, a = some ⟨b, o, none⟩ := by
  obtain ⟨a', c', e, _, _, hl⟩ := h
  simp only [Value.slice.injEq] at e
  obtain ⟨rfl, _, _⟩ := e
  rcases hl with rfl | ⟨b, o, rfl, _⟩
  · simp at hn
  · exact ⟨b, o, rfl⟩
theorem slice_len {w : World} {a : Option Addr} {n c : Nat} {l : List UInt8} (h : BytesAt w (.slice a n c) l) : n = l.length := by
  obtain ⟨a', c', e, _, _, hl⟩ := h
  simp only [Value.slice.injEq] at e
  exact e.2.1

set_option maxRecDepth 100000 in
theorem open_size (a : Option Addr) (c : Nat) (l : List UInt8) (w : World) (A : Nat → Addr) {S : Nat → Prop} [Has S 1] [Has S 2] [Has S 5] (hs : SentsOn S w A) (h : Pg.sized l.length = false) (hm : l.length ≤ 9223372036854775807) :
    Calls Tryz.prog 95 #[.slice a l.length c] w fun e w' => OpenErr 1 w A (Pg.zero, 2, -1) e w' ∧ Below w.heap.size w w' := by
  have g2 : w.cell? ⟨1, 0, none⟩ = some (.iface 176 (.pointer (some (A 2)))) := hs.cell 2 (by decide) (by decide)
  have l2 := World.block_lt_of_cell? w _ g2
  simp only at l2
  have HZ := Lib.hid h
  clear hs h
  go_enter Tryz.func95, Tryz.ntmps95
  go_wp2_with (first
    | (go_at_call 85; refine (sized_is _ false HZ.out _).mono ?_; rintro e w' ⟨rfl, rfl⟩)
    | (go_at_call 41; refine (faultNew_any _ 2 _ _ A _ (sent_err 2 (by decide) (by decide)) (by decide) (Nat.le_refl _)).mono ?_; rintro e w1 ⟨⟨v, rfl, hv⟩, hb⟩; obtain ⟨bc, bf⟩ := bcellB hb; have hsz := hb.size; simp only [World.size_alloc] at hsz))
  have m0 : w1.cell? ⟨w.heap.size, 0, none⟩ = some (.int .i64 0) := by rw [bc _ _ (by simp)]; go_simp
  have m1 : w1.cell? ⟨w.heap.size, 1, none⟩ = some (.int .i64 0) := by rw [bc _ _ (by simp)]; go_simp
  have m2 : w1.cell? ⟨w.heap.size, 2, none⟩ = some (.int .u64 0) := by rw [bc _ _ (by simp)]; go_simp
  have m3 : w1.cell? ⟨w.heap.size, 3, none⟩ = some (.slice none 0 0) := by rw [bc _ _ (by simp)]; go_simp
  have hbw : Below w.heap.size w w1 := (show Below w.heap.size w _ by go_grown).trans (hb.mono (by simp))
  refine bodyPost_ret (v := .tuple #[zeroV, v]) (by simp [results, Tryz.results95, go_sem, m0, m1, m2, m3, zeroV]) rfl ?_
  refine ⟨zero_open (lp := [-1]) ((((((hv.setLow _ ?q1).setLow _ ?q2).setLow _ ?q3).setLow _ ?q4)).mono ?q5) rfl (by simp), by go_grown⟩
  all_goals (simp; try omega)

theorem pageOf_max (x : Int) : pageOf [max x (-1)] = max x (-1) := by
  unfold pageOf pageOf
  split <;> omega
/-- a page's box: its four cells -/
structure Box4 (w : World) (r : Nat) (v0 v1 v2 v3 : Value) : Prop where
  c0 : w.cell? ⟨r, 0, none⟩ = some v0
  c1 : w.cell? ⟨r, 1, none⟩ = some v1
  c2 : w.cell? ⟨r, 2, none⟩ = some v2
  c3 : w.cell? ⟨r, 3, none⟩ = some v3
  f0 : w.frozen? ⟨r, 0, none⟩ = false
  f1 : w.frozen? ⟨r, 1, none⟩ = false
  f2 : w.frozen? ⟨r, 2, none⟩ = false
  f3 : w.frozen? ⟨r, 3, none⟩ = false
theorem Box4.new (w : World) (v0 v1 v2 v3 : Value) (t : TypeId) : Box4 (w.alloc (.cells #[v0, v1, v2, v3] t)) w.heap.size v0 v1 v2 v3 := by
  constructor <;> go_simp
theorem Box4.lt {w : World} {r : Nat} {v0 v1 v2 v3 : Value} (h : Box4 w r v0 v1 v2 v3) : r < w.heap.size := World.block_lt_of_cell? w _ h.c0
theorem Box4.below {w w' : World} {r : Nat} {v0 v1 v2 v3 : Value} (h : Box4 w r v0 v1 v2 v3) (hb : Below w.heap.size w w') : Box4 w' r v0 v1 v2 v3 := by
  obtain ⟨bc, bf⟩ := bcellB hb
  have hl := h.lt
  constructor
  · rw [bc _ _ hl]; exact h.c0
  · rw [bc _ _ hl]; exact h.c1
  · rw [bc _ _ hl]; exact h.c2
  · rw [bc _ _ hl]; exact h.c3
  · rw [bf _ _ hl]; exact h.f0
  · rw [bf _ _ hl]; exact h.f1
  · rw [bf _ _ hl]; exact h.f2
  · rw [bf _ _ hl]; exact h.f3
theorem Box4.alloc {w : World} {r : Nat} {v0 v1 v2 v3 : Value} (h : Box4 w r v0 v1 v2 v3) (o : Obj) : Box4 (w.alloc o) r v0 v1 v2 v3 := h.below ((Below.refl _ _).alloc (Nat.le_refl _) o)

/-- what page.read says, its page named by p -/
theorem read_is (b o c : Nat) (l : List UInt8) (p : Pg.Page) (hp : Pg.readL l = p) (w : World) (hb : BytesAt w (.slice (some ⟨b, o, none⟩) l.length c) l) (h1 : 24 ≤ l.length) (h2 : l.length ≤ 1024) :
    Calls Tryz.prog 101 #[.slice (some ⟨b, o, none⟩) l.length c] w fun e w' => (∃ a c, e = .returned (.agg #[.int .i64 p.kind, .int .i64 p.id, .int .u64 (p.gen : Int), .slice a p.body.length c]) ∧ Own w' w.heap.size (.slice a p.body.length c) p.body) ∧ Below w.heap.size w w' := by
  subst hp; exact read_any b o c l w hb h1 h2
theorem equal_is (v1 v2 : Value) (l1 l2 : List UInt8) (t : Bool) (ht : (l1 == l2) = t) (w : World) (h1 : BytesAt w v1 l1) (h2 : BytesAt w v2 l2) :
    Calls Tryz.prog 102 #[v1, v2] w fun e w' => e = .returned (.bool t) ∧ Below w.heap.size w w' := by subst ht; exact equal_any v1 v2 l1 l2 w h1 h2

set_option maxRecDepth 100000 in
set_option maxHeartbeats 2000000 in
theorem open_bad (b o c : Nat) (l : List UInt8) (w : World) (A : Nat → Addr) {S : Nat → Prop} [Has S 1] [Has S 2] [Has S 5] (hs : SentsOn S w A) (hb : BytesAt w (.slice (some ⟨b, o, none⟩) l.length c) l) (hz : Pg.sized l.length = true) (h : Pg.checkC (Pg.readL l) l.length ≠ 0) :
    Calls Tryz.prog 95 #[.slice (some ⟨b, o, none⟩) l.length c] w fun e w' => OpenErr 1 w A (Pg.zero, 5, Pg.named l) e w' ∧ Below w.heap.size w w' := by
  have g5 : w.cell? ⟨5, 0, none⟩ = some (.iface 176 (.pointer (some (A 5)))) := hs.cell 5 (by decide) (by decide)
  have l5 := World.block_lt_of_cell? w _ g5
  simp only at l5
  have hsz : 256 ≤ l.length ∧ l.length ≤ 1024 := by unfold Pg.sized at hz; simp at hz; omega
  have HZ := Lib.hid hz
  have HS := Lib.hid hs
  have HB := Lib.hid hb
  have hid : 0 ≤ (Pg.readL l).id := by show (0 : Int) ≤ ((Pg.num l 4 4 : Nat) : Int); omega
  have hid2 : (Pg.readL l).id < 4294967296 := by show ((Pg.num l 4 4 : Nat) : Int) < 4294967296; have := Pg.num_lt l 4 4; omega
  have HNM := Lib.hid (show Pg.named l = if (Pg.readL l).id ≤ 255 then (Pg.readL l).id else -1 by unfold Pg.named Pg.readL; simp only; split <;> split <;> omega)
  generalize hp : Pg.readL l = p at *
  have HP := Lib.hid hp
  have HC := Lib.hid h
  have hn : p.body.length ≤ 1024 := by
    subst hp
    show (if _ then _ else _ : List UInt8).length ≤ 1024
    split
    · rw [List.length_take, List.length_drop]; omega
    · simp
  clear hs hb hz h hp
  by_cases h256 : p.id ≤ 255
  all_goals
    go_enter Tryz.func95, Tryz.ntmps95
    go_wp2_with (first
      | (go_at_call 85; refine (sized_is _ true HZ.out _).mono ?_; rintro e w' ⟨rfl, rfl⟩)
      | (go_at_call 101; refine (read_is b o c l p HP.out _ (HB.out.alloc _) (by omega) (by omega)).mono ?_; rintro e w1 ⟨⟨a1, c1, rfl, ho1⟩, hb1⟩; have HX1 := Lib.hid ((Box4.new _ _ _ _ _ _).below hb1); have hs1 := hb1.size; simp only [World.size_alloc] at hs1; have hbw1 : Below w.heap.size w w1 := (show Below w.heap.size w _ by go_grown).trans (hb1.mono (by simp)))
      | (go_at_call 75; refine (seal_bad p a1 c1 l.length _ A (HS.out.below (by go_grown)) (by omega) (by omega) HC.out).mono ?_; rintro e w2 ⟨⟨t, x, lp, rfl, hE⟩, hb2⟩; have HX2 := Lib.hid ((HX1.out.alloc _).below hb2); have HY2 := Lib.hid ((Box4.new _ _ _ _ _ _).below hb2); obtain ⟨y0, y1, y2, y3, -, -, -, -⟩ := HY2.out; have hs2 := hb2.size; simp only [World.size_alloc] at hs2; have hbw2 : Below w.heap.size w w2 := (show Below w.heap.size w _ by go_grown).trans (hb2.mono (by simp; omega)); have g52 := (hbw2.cell (p := ⟨5, 0, none⟩) l5).trans g5)
      | (go_at_call 47; refine (faultAt_any _ _ [] 5 _ _ A _ (sent_err 5 (by decide) (by decide)) (by decide) (Nat.le_refl _)).mono ?_; rintro e w3 ⟨⟨v, rfl, hv⟩, hb3⟩; obtain ⟨m0, m1, m2, m3, f0, f1, f2, f3⟩ := HX2.out.below hb3; have hs3 := hb3.size; have hbw3 := hbw2.trans (hb3.mono (by omega))))
    refine bodyPost_ret (v := .tuple #[zeroV, v]) (by simp [results, Tryz.results95, go_sem, m0, m1, m2, m3, zeroV]) rfl ?_
    rw [HNM.out]
    exact ⟨zero_open (lp := _) ((((((hv.setLow _ (by omega)).setLow _ (by omega)).setLow _ (by omega)).setLow _ (by omega))).mono (by omega)) (by rw [pageOf_max]; split <;> omega) (by simp), by go_grown⟩

set_option maxRecDepth 100000 in
set_option maxHeartbeats 2000000 in
theorem open_neq (b o c : Nat) (l : List UInt8) (w : World) (A : Nat → Addr) {S : Nat → Prop} [Has S 1] [Has S 2] [Has S 5] (hs : SentsOn S w A) (hb : BytesAt w (.slice (some ⟨b, o, none⟩) l.length c) l) (hz : Pg.sized l.length = true) (h : Pg.checkC (Pg.readL l) l.length = 0) (hne : Pg.sealL (Pg.readL l) l.length ≠ l) :
    Calls Tryz.prog 95 #[.slice (some ⟨b, o, none⟩) l.length c] w fun e w' => OpenErr 1 w A (Pg.zero, 5, Pg.named l) e w' ∧ Below w.heap.size w w' := by
  have g5 : w.cell? ⟨5, 0, none⟩ = some (.iface 176 (.pointer (some (A 5)))) := hs.cell 5 (by decide) (by decide)
  have l5 := World.block_lt_of_cell? w _ g5
  simp only at l5
  have hsz : 256 ≤ l.length ∧ l.length ≤ 1024 := by unfold Pg.sized at hz; simp at hz; omega
  have HZ := Lib.hid hz
  have HS := Lib.hid hs
  have HB := Lib.hid hb
  have hid : 0 ≤ (Pg.readL l).id := by show (0 : Int) ≤ ((Pg.num l 4 4 : Nat) : Int); omega
  have hid2 : (Pg.readL l).id ≤ 255 := (Pg.check_ok h).2.2.1.2
  have hg := Pg.read_gen l
  have HNM := Lib.hid (show Pg.named l = (Pg.readL l).id by unfold Pg.named; rw [if_pos (by have := hid2; simp only [Pg.readL] at this; omega)]; rfl)
  generalize hp : Pg.readL l = p at *
  have HP := Lib.hid hp
  have HC := Lib.hid h
  have HE := Lib.hid (show (Pg.sealL p l.length == l) = false by simpa using hne)
  clear hs hb hz h hp hne
  go_enter Tryz.func95, Tryz.ntmps95
  go_wp2_with (first
      | (go_at_call 85; refine (sized_is _ true HZ.out _).mono ?_; rintro e w' ⟨rfl, rfl⟩)
      | (go_at_call 101; refine (read_is b o c l p HP.out _ (HB.out.alloc _) (by omega) (by omega)).mono ?_; rintro e w1 ⟨⟨a1, c1, rfl, ho1⟩, hb1⟩; have HO1 := Lib.hid ho1; clear ho1; have HX1 := Lib.hid ((Box4.new _ _ _ _ _ _).below hb1); have hs1 := hb1.size; simp only [World.size_alloc] at hs1; have hbw1 : Below w.heap.size w w1 := (show Below w.heap.size w _ by go_grown).trans (hb1.mono (by simp)))
      | (go_at_call 75; refine (seal_ok p a1 c1 l.length _ A (HS.out.below (by go_grown)) (HO1.out.bytes.alloc _) HC.out hg).mono ?_; rintro e w2 ⟨hgv, hb2⟩; obtain ⟨a2, c2, rfl, ho2⟩ := hgv.seen; have HO2 := Lib.hid ho2; clear hgv ho2; have HX2 := Lib.hid ((HX1.out.alloc _).below hb2); have HY2 := Lib.hid ((Box4.new _ _ _ _ _ _).below hb2); have hs2 := hb2.size; simp only [World.size_alloc] at hs2; have hbw2 : Below w.heap.size w w2 := (show Below w.heap.size w _ by go_grown).trans (hb2.mono (by simp; omega)))
      | (go_at_call 102; refine (equal_is _ _ _ l false HE.out _ HO2.out.bytes (HB.out.below hbw2)).mono ?_; rintro e w4 ⟨rfl, hb4⟩; have HX4 := Lib.hid (HX2.out.below hb4); obtain ⟨y0, y1, y2, y3, -, -, -, -⟩ := HY2.out.below hb4; have hs4 := hb4.size; have hbw4 := hbw2.trans (hb4.mono (by omega)); have g52 := (hbw4.cell (p := ⟨5, 0, none⟩) l5).trans g5)
      | (go_at_call 47; refine (faultAt_any _ _ [] 5 _ _ A _ (sent_err 5 (by decide) (by decide)) (by decide) (Nat.le_refl _)).mono ?_; rintro e w3 ⟨⟨v, rfl, hv⟩, hb3⟩; obtain ⟨m0, m1, m2, m3, f0, f1, f2, f3⟩ := HX4.out.below hb3; have hs3 := hb3.size; have hbw3 := hbw4.trans (hb3.mono (by omega))))
  refine bodyPost_ret (v := .tuple #[zeroV, v]) (by simp [results, Tryz.results95, go_sem, m0, m1, m2, m3, zeroV]) rfl ?_
  rw [HNM.out]
  exact ⟨zero_open (lp := _) ((((((hv.setLow _ (by omega)).setLow _ (by omega)).setLow _ (by omega)).setLow _ (by omega))).mono (by omega)) (by rw [pageOf_max]; omega) (by simp), by go_grown⟩

set_option maxRecDepth 100000 in
set_option maxHeartbeats 2000000 in
theorem open_ok (b o c : Nat) (l : List UInt8) (w : World) (A : Nat → Addr) {S : Nat → Prop} [Has S 1] [Has S 2] [Has S 5] (hs : SentsOn S w A) (hb : BytesAt w (.slice (some ⟨b, o, none⟩) l.length c) l) (h : Pg.opens l) :
    Calls Tryz.prog 95 #[.slice (some ⟨b, o, none⟩) l.length c] w fun e w' => OpenErr 1 w A (Pg.readL l, 0, -1) e w' ∧ Below w.heap.size w w' := by
  obtain ⟨h, hne⟩ := h
  have hz : Pg.sized l.length = true := by have := (Pg.check_ok h).1; unfold Pg.sized; simp; omega
  have hsz : 256 ≤ l.length ∧ l.length ≤ 1024 := by unfold Pg.sized at hz; simp at hz; omega
  have HZ := Lib.hid hz
  have HS := Lib.hid hs
  have HB := Lib.hid hb
  have hid : 0 ≤ (Pg.readL l).id := by show (0 : Int) ≤ ((Pg.num l 4 4 : Nat) : Int); omega
  have hid2 : (Pg.readL l).id ≤ 255 := (Pg.check_ok h).2.2.1.2
  have hg := Pg.read_gen l
  generalize hp : Pg.readL l = p at *
  have HP := Lib.hid hp
  have HC := Lib.hid h
  have HE := Lib.hid (show (Pg.sealL p l.length == l) = true by simpa using hne)
  clear hs hb hz h hp hne
  go_enter Tryz.func95, Tryz.ntmps95
  go_wp2_with (first
      | (go_at_call 85; refine (sized_is _ true HZ.out _).mono ?_; rintro e w' ⟨rfl, rfl⟩)
      | (go_at_call 101; refine (read_is b o c l p HP.out _ (HB.out.alloc _) (by omega) (by omega)).mono ?_; rintro e w1 ⟨⟨a1, c1, rfl, ho1⟩, hb1⟩; have HO1 := Lib.hid ho1; clear ho1; have HX1 := Lib.hid ((Box4.new _ _ _ _ _ _).below hb1); have hs1 := hb1.size; simp only [World.size_alloc] at hs1; have hbw1 : Below w.heap.size w w1 := (show Below w.heap.size w _ by go_grown).trans (hb1.mono (by simp)))
      | (go_at_call 75; refine (seal_ok p a1 c1 l.length _ A (HS.out.below (by go_grown)) (HO1.out.bytes.alloc _) HC.out hg).mono ?_; rintro e w2 ⟨hgv, hb2⟩; obtain ⟨a2, c2, rfl, ho2⟩ := hgv.seen; have HO2 := Lib.hid ho2; clear hgv ho2; have HX2 := Lib.hid ((HX1.out.alloc _).below hb2); have HY2 := Lib.hid ((Box4.new _ _ _ _ _ _).below hb2); have hs2 := hb2.size; simp only [World.size_alloc] at hs2; have hbw2 : Below w.heap.size w w2 := (show Below w.heap.size w _ by go_grown).trans (hb2.mono (by simp; omega)); have HO12 := Lib.hid ((HO1.out.alloc _).below hb2 (Nat.le_refl _)))
      | (go_at_call 102; refine (equal_is _ _ _ l true HE.out _ HO2.out.bytes (HB.out.below hbw2)).mono ?_; rintro e w4 ⟨rfl, hb4⟩; obtain ⟨m0, m1, m2, m3, f0, f1, f2, f3⟩ := HX2.out.below hb4; obtain ⟨y0, y1, y2, y3, -, -, -, -⟩ := HY2.out.below hb4; have hs4 := hb4.size; have hbw4 := hbw2.trans (hb4.mono (by omega)); have HO14 := Lib.hid (HO12.out.below hb4 (Nat.le_refl _))))
  refine bodyPost_ret (v := .tuple #[pageV p (.slice a1 p.body.length c1), .nilIface]) (by simp [results, Tryz.results95, go_sem, m0, m1, m2, m3, pageV]) rfl ?_
  exact ⟨⟨a1, c1, _, [], rfl, (Own.setLow (Own.setLow (Own.setLow (Own.setLow HO14.out _ (by simp)) _ (by simp)) _ (by simp)) _ (by simp)).mono (by simp), ErrIs.nil _ _ _, rfl, by simp⟩, by go_grown⟩

theorem open_any (a : Option Addr) (c : Nat) (l : List UInt8) (w : World) (A : Nat → Addr) {S : Nat → Prop} [Has S 1] [Has S 2] [Has S 5] (hs : SentsOn S w A) (hb : BytesAt w (.slice a l.length c) l) :
    Calls Tryz.prog 95 #[.slice a l.length c] w fun e w' => OpenErr 1 w A (Pg.openL l) e w' ∧ Below w.heap.size w w' := by
  have hm : l.length ≤ 9223372036854775807 := by
    obtain ⟨a', c', e, q1, q2, _⟩ := hb
    unfold maxLen at q2
    omega
  unfold Pg.openL
  split
  · rename_i h; exact open_size a c l w A hs h hm
  · rename_i h
    have hz : Pg.sized l.length = true := by simpa using h
    obtain ⟨b, o, rfl⟩ := slice_some hb (by unfold Pg.sized at hz; simp at hz; omega)
    split
    · rename_i ho; exact open_ok b o c l w A hs hb ho
    · rename_i ho
      by_cases hc : Pg.checkC (Pg.readL l) l.length = 0
      · exact open_neq b o c l w A hs hb hz hc (fun e => ho ⟨hc, e⟩)
      · exact open_bad b o c l w A hs hb hz hc
end Go.Proofs.YtflbioiildndoaaGreatDoor

/- pages: page.OpenAt, page.Same -/
namespace Go.Proofs.YtflbioiildndoaaGreatDoor
open Go.RowKit
set_option linter.unusedVariables false
set_option linter.unusedSimpArgs false

/-- Open of a block that opens not -/
theorem open_fail (a : Option Addr) (c : Nat) (l : List UInt8) (w : World) (A : Nat → Addr) {S : Nat → Prop} [Has S 1] [Has S 2] [Has S 5] (hs : SentsOn S w A) (hb : BytesAt w (.slice a l.length c) l) (h : ¬ Pg.opens l) :
    Calls Tryz.prog 95 #[.slice a l.length c] w fun e w' => (∃ a1 c1 t x lp, e = .returned (.tuple #[.agg #[.int .i64 0, .int .i64 0, .int .u64 0, .slice a1 0 c1], .iface t x]) ∧ ErrIs w' A w.heap.size lp (Pg.openL l).2.1 (.iface t x) ∧ pageOf lp = (Pg.openL l).2.2 ∧ lp.length ≤ 1) ∧ Below w.heap.size w w' := by
  refine (open_any a c l w A hs hb).mono fun e w' ⟨⟨a1, c1, ev, lp, he, ho, hE, hp, hl⟩, hb⟩ => ⟨?_, hb⟩
  obtain ⟨t, x, rfl⟩ := hE.iface (fun h0 => h ((Pg.open_code l).1 h0))
  rw [Pg.open_not h] at he
  exact ⟨a1, c1, t, x, lp, he, hE, hp, hl⟩
theorem open_good (a : Option Addr) (c : Nat) (l : List UInt8) (p : Pg.Page) (hp : Pg.readL l = p) (w : World) (A : Nat → Addr) {S : Nat → Prop} [Has S 1] [Has S 2] [Has S 5] (hs : SentsOn S w A) (hb : BytesAt w (.slice a l.length c) l) (h : Pg.opens l) :
    Calls Tryz.prog 95 #[.slice a l.length c] w fun e w' => (∃ a1 c1, e = .returned (.tuple #[.agg #[.int .i64 p.kind, .int .i64 p.id, .int .u64 (p.gen : Int), .slice a1 p.body.length c1], .nilIface]) ∧ Own w' w.heap.size (.slice a1 p.body.length c1) p.body) ∧ Below w.heap.size w w' := by
  subst hp
  refine (open_any a c l w A hs hb).mono fun e w' ⟨⟨a1, c1, ev, lp, he, ho, hE, hp, hl⟩, hb⟩ => ⟨?_, hb⟩
  rw [Pg.open_page h] at he ho hE
  obtain ⟨rfl, _⟩ := hE.isNil
  exact ⟨a1, c1, he, ho⟩

set_option maxRecDepth 100000 in
set_option maxHeartbeats 2000000 in
theorem openAt_fail (a : Option Addr) (c : Nat) (l : List UInt8) (id : Int) (w : World) (A : Nat → Addr) {S : Nat → Prop} [Has S 1] [Has S 2] [Has S 5] (hs : SentsOn S w A) (hb : BytesAt w (.slice a l.length c) l) (h : ¬ Pg.opens l) :
    Calls Tryz.prog 82 #[.slice a l.length c, .int .i64 id] w fun e w' => OpenErr 2 w A (Pg.zero, (Pg.openL l).2.1, (Pg.openL l).2.2) e w' ∧ Below w.heap.size w w' := by
  have HS := Lib.hid hs
  have HB := Lib.hid hb
  have HN := Lib.hid h
  have hk : (Pg.openL l).2.1 ≠ 0 := fun h0 => h ((Pg.open_code l).1 h0)
  have HK := Lib.hid hk
  clear hs hb h hk
  go_enter Tryz.func82, Tryz.ntmps82
  go_wp2_with (first
    | (go_at_call 95; refine (open_fail a c l _ A (HS.out.below (by go_grown)) (HB.out.alloc _) HN.out).mono ?_; rintro e w1 ⟨⟨a1, c1, t, x, lp, rfl, hE, hpl, hll⟩, hb1⟩; have HX1 := Lib.hid ((Box4.new _ _ _ _ _ _).below hb1); have hs1 := hb1.size; simp only [World.size_alloc] at hs1; have hbw1 : Below w.heap.size w w1 := (show Below w.heap.size w _ by go_grown).trans (hb1.mono (by simp)))
    | (go_at_call 43; refine (faultWrap_any _ lp _ _ _ A _ (hE.below ((Below.refl _ _).alloc (Nat.le_refl _) _)) HK.out (by simp; omega)).mono ?_; rintro e w3 ⟨⟨v, rfl, hv⟩, hb3⟩; obtain ⟨m0, m1, m2, m3, f0, f1, f2, f3⟩ := (HX1.out.alloc _).below hb3; have hs3 := hb3.size; simp only [World.size_alloc] at hs3; have hbw3 : Below w.heap.size w w3 := (show Below w.heap.size w _ by go_grown).trans (hb3.mono (by simp; omega))))
  refine bodyPost_ret (v := .tuple #[zeroV, v]) (by simp [results, Tryz.results82, go_sem, m0, m1, m2, m3, zeroV]) rfl ?_
  exact ⟨zero_open (lp := _) ((((((hv.setLow _ (by simp)).setLow _ (by simp)).setLow _ (by simp)).setLow _ (by simp))).mono (by simp)) (by rw [← hpl]; rfl) (by simp; omega), by go_grown⟩

set_option maxRecDepth 100000 in
set_option maxHeartbeats 2000000 in
theorem openAt_other (a : Option Addr) (c : Nat) (l : List UInt8) (id : Int) (w : World) (A : Nat → Addr) {S : Nat → Prop} [Has S 1] [Has S 2] [Has S 5] (hs : SentsOn S w A) (hb : BytesAt w (.slice a l.length c) l) (h : Pg.opens l) (hne : (Pg.readL l).id ≠ id) :
    Calls Tryz.prog 82 #[.slice a l.length c, .int .i64 id] w fun e w' => OpenErr 2 w A (Pg.zero, 5, max id (-1)) e w' ∧ Below w.heap.size w w' := by
  have g5 : w.cell? ⟨5, 0, none⟩ = some (.iface 176 (.pointer (some (A 5)))) := hs.cell 5 (by decide) (by decide)
  have l5 := World.block_lt_of_cell? w _ g5
  simp only at l5
  have HS := Lib.hid hs
  have HB := Lib.hid hb
  have HN := Lib.hid h
  generalize hp : Pg.readL l = p at *
  have HP := Lib.hid hp
  have hne2 : (p.id != id) = true := by simpa using hne
  clear hs hb h hp
  go_enter Tryz.func82, Tryz.ntmps82
  go_wp2_with (first
    | (go_at_call 95; refine (open_good a c l p HP.out _ A (HS.out.below (by go_grown)) (HB.out.alloc _) HN.out).mono ?_; rintro e w1 ⟨⟨a1, c1, rfl, ho1⟩, hb1⟩; have HX1 := Lib.hid ((Box4.new _ _ _ _ _ _).below hb1); have hs1 := hb1.size; simp only [World.size_alloc] at hs1; have hbw1 : Below w.heap.size w w1 := (show Below w.heap.size w _ by go_grown).trans (hb1.mono (by simp)); have g52 := (hbw1.cell (p := ⟨5, 0, none⟩) l5).trans g5; have lt1 : 5 < w1.heap.size := by omega)
    | (go_at_call 47; refine (faultAt_any _ _ [] 5 _ _ A _ (sent_err 5 (by decide) (by decide)) (by decide) (Nat.le_refl _)).mono ?_; rintro e w3 ⟨⟨v, rfl, hv⟩, hb3⟩; obtain ⟨m0, m1, m2, m3, f0, f1, f2, f3⟩ := (HX1.out.alloc _).below hb3; have hs3 := hb3.size; simp only [World.size_alloc] at hs3; have hbw3 : Below w.heap.size w w3 := (show Below w.heap.size w _ by go_grown).trans (hb3.mono (by simp; omega))))
  refine bodyPost_ret (v := .tuple #[zeroV, v]) (by simp [results, Tryz.results82, go_sem, m0, m1, m2, m3, zeroV]) rfl ?_
  exact ⟨zero_open (lp := _) ((((((hv.setLow _ (by simp; omega)).setLow _ (by simp; omega)).setLow _ (by simp; omega)).setLow _ (by simp; omega))).mono (by simp; omega)) (by rw [pageOf_max]) (by simp), by go_grown⟩

set_option maxRecDepth 100000 in
set_option maxHeartbeats 2000000 in
theorem openAt_ok (a : Option Addr) (c : Nat) (l : List UInt8) (id : Int) (w : World) (A : Nat → Addr) {S : Nat → Prop} [Has S 1] [Has S 2] [Has S 5] (hs : SentsOn S w A) (hb : BytesAt w (.slice a l.length c) l) (h : Pg.opens l) (hid : (Pg.readL l).id = id) :
    Calls Tryz.prog 82 #[.slice a l.length c, .int .i64 id] w fun e w' => OpenErr 2 w A (Pg.readL l, 0, -1) e w' ∧ Below w.heap.size w w' := by
  have HS := Lib.hid hs
  have HB := Lib.hid hb
  have HN := Lib.hid h
  generalize hp : Pg.readL l = p at *
  have HP := Lib.hid hp
  have hne2 : (p.id != id) = false := by simpa using hid
  have HID := Lib.hid hid
  clear hs hb h hp hid
  go_enter Tryz.func82, Tryz.ntmps82
  go_wp2_with (first
    | (go_at_call 95; (refine (open_good a c l p HP.out _ A (HS.out.below (by go_grown)) (HB.out.alloc _) HN.out).mono ?_); (rintro e w1 ⟨⟨a1, c1, rfl, ho1⟩, hb1⟩); (have HO1 := Lib.hid ho1); (clear ho1); (have HX1 := Lib.hid ((Box4.new _ _ _ _ _ _).below hb1)); (obtain ⟨m0, m1, m2, m3, f0, f1, f2, f3⟩ := HX1.out); (have hs1 := hb1.size); (simp only [World.size_alloc] at hs1); (have hbw1 : Below w.heap.size w w1 := (show Below w.heap.size w _ by go_grown).trans (hb1.mono (by simp))); (have k1 : w.heap.size < w1.heap.size := by omega); (have k2 : ¬ w1.heap.size = w.heap.size := Nat.ne_of_gt k1); (have k3 : ¬ w.heap.size = w1.heap.size := Nat.ne_of_lt k1)))
  refine bodyPost_ret (v := .tuple #[pageV p (.slice a1 p.body.length c1), .nilIface]) (by simp [results, Tryz.results82, go_sem, m0, m1, m2, m3, pageV, k1, k2, k3]) rfl ?_
  exact ⟨⟨a1, c1, _, [], rfl, (((Own.setLow (Own.setLow (Own.setLow (Own.setLow HO1.out _ (by simp)) _ (by simp)) _ (by simp)) _ (by simp)).alloc _).mono (by simp)), ErrIs.nil _ _ _, rfl, by simp⟩, by go_grown⟩

theorem openAt_any (a : Option Addr) (c : Nat) (l : List UInt8) (id : Int) (w : World) (A : Nat → Addr) {S : Nat → Prop} [Has S 1] [Has S 2] [Has S 5] (hs : SentsOn S w A) (hb : BytesAt w (.slice a l.length c) l) :
    Calls Tryz.prog 82 #[.slice a l.length c, .int .i64 id] w fun e w' => OpenErr 2 w A (Pg.openAtL l id) e w' ∧ Below w.heap.size w w' := by
  unfold Pg.openAtL
  by_cases h : Pg.opens l
  · rw [if_neg (by rw [(Pg.open_code l).2 h]; decide)]
    rw [Pg.open_page h]
    simp only
    by_cases hid : (Pg.readL l).id = id
    · rw [if_neg (by simpa using hid)]
      exact openAt_ok a c l id w A hs hb h hid
    · rw [if_pos hid]
      exact openAt_other a c l id w A hs hb h hid
  · rw [if_pos (fun h0 => h ((Pg.open_code l).1 h0))]
    have := openAt_fail a c l id w A hs hb h
    rwa [show (Pg.zero, (Pg.openL l).2.1, (Pg.openL l).2.2) = Pg.openL l by rw [← Pg.open_not h]] at this
end Go.Proofs.YtflbioiildndoaaGreatDoor
