/- pages: the walks of slices.Equal, slices.Clone, page.read, page.Open -/
import Derived.Test.YtflbioiildndoaaDoorPageSeal
namespace Go.Proofs.YtflbioiildndoaaDoor
open Go.RowKit
set_option linter.unusedVariables false
set_option linter.unusedSimpArgs false

theorem equal_any (v1 v2 : Value) (l1 l2 : List UInt8) (w : World) (h1 : BytesAt w v1 l1) (h2 : BytesAt w v2 l2) :
    Calls Tryd.prog 105 #[v1, v2] w fun e w' => e = .returned (.bool (l1 == l2)) ∧ Below w.heap.size w w' := by
  have H1 : Hid (BytesAt w v1 l1) := h1
  have H2 : Hid (BytesAt w v2 l2) := h2
  obtain ⟨a1, c1, rfl, hlc1, hcm1, hl1⟩ := h1
  obtain ⟨a2, c2, rfl, hlc2, hcm2, hl2⟩ := h2
  unfold maxLen at hcm1 hcm2
  have HL1 := Lib.hid hl1
  have HL2 := Lib.hid hl2
  clear hl1 hl2
  by_cases hne : l1.length = l2.length
  · have ht : ((l1.length : Int) != (l2.length : Int)) = false := by simp [hne]
    have HN := Lib.hid hne
    clear hne
    go_enter Tryd.func105, Tryd.ntmps105
    go_wp2
    go_loopw [13] (fun i wr => ∃ k : Nat, k ≤ l1.length ∧ i = .int .i64 k ∧ l1.take k = l2.take k ∧ Below w.heap.size w wr) (fun i _ => l1.length - (intOf i).toNat)
    case atStart => exact ⟨0, by omega, rfl, by simp, Below.refl _ _⟩
    case round =>
      obtain ⟨k, hk, rfl, htk, hbel⟩ := hrel
      have HT := Lib.hid htk
      clear htk
      by_cases hlt : k < l1.length
      · obtain ⟨x, hx⟩ := getElem?_some_of_lt hlt
        obtain ⟨y, hy⟩ := getElem?_some_of_lt (show k < l2.length by rw [← HN.out]; exact hlt)
        have hlt2 : (k : Int) < (l2.length : Int) := by have := HN.out; omega
        have hlt1 : (k : Int) < (l1.length : Int) := by omega
        rcases HL1.out with hn | ⟨b1, o1, rfl, hc1⟩
        · rw [hn] at hlt; simp at hlt
        rcases HL2.out with hn | ⟨b2, o2, rfl, hc2⟩
        · rw [hn] at hlt2; simp at hlt2; omega
        have hcx := Later.cell (w := wr) ((hbel.cell (World.block_lt_of_cell? w _ (hc1 k x hx))).trans (hc1 k x hx))
        have hcy := Later.cell (w := wr) ((hbel.cell (World.block_lt_of_cell? w _ (hc2 k y hy))).trans (hc2 k y hy))
        have HX := Lib.hid hx
        have HY := Lib.hid hy
        clear hx hy hc1 hc2
        go_wp2
        refine wp_region_later (by kernel_rfl) (by kernel_rfl) ?_
        repeat (first | go_big_quiet_step (fail) | quiet_step (fail))
        refine wpQuiet_nil ?_
        intro xw
        have hxb := xw.below
        go_wp2
        · have hne : (((x.toNat : Int)) != (y.toNat : Int)) = true := by assumption
          go_ret
          refine ⟨ret_bool ?_, hbel.trans (hxb.mono hbel.size)⟩
          symm
          rw [beq_eq_false_iff_ne]
          intro e
          have h1 := HX.out
          rw [e, HY.out] at h1
          simp at h1
          subst h1
          simp at hne
        · have heq : (((x.toNat : Int)) != (y.toNat : Int)) = false := by assumption
          have hxy : x = y := by
            have h0 : (x.toNat : Int) = (y.toNat : Int) := by simpa using heq
            exact UInt8.toNat_inj.1 (by omega)
          go_roundw
          case rel => exact ⟨k + 1, by omega, by go_num, take_eq_succ HT.out HX.out HY.out hxy, hbel.trans (hxb.mono hbel.size)⟩
          case measure => simp [intOf]; omega
      · have hk2 : k = l1.length := by omega
        subst hk2
        go_wp2
        go_ret
        refine ⟨ret_bool ?_, hbel⟩
        symm
        rw [beq_iff_eq]
        have h1 := HT.out
        rwa [List.take_length, HN.out, List.take_length] at h1
  · have ht : ((l1.length : Int) != (l2.length : Int)) = true := by simp; omega
    go_enter Tryd.func105, Tryd.ntmps105
    go_wp2
    go_ret
    exact ⟨ret_bool (by symm; rw [beq_eq_false_iff_ne]; exact fun e => hne (by rw [e])), Below.refl _ _⟩

def GivesOwn (w : World) (l : List UInt8) (e : Ending) (w' : World) : Prop := ∃ a c, e = .returned (.slice a l.length c) ∧ Own w' w.heap.size (.slice a l.length c) l
set_option maxRecDepth 100000 in
theorem clone_any (b o n c : Nat) (l : List UInt8) (w : World) (hb : BytesAt w (.slice (some ⟨b, o, none⟩) n c) l) (hlen : l.length ≤ 140737488351232) :
    Calls Tryd.prog 109 #[.slice (some ⟨b, o, none⟩) n c] w fun e w' => GivesOwn w l e w' ∧ Below w.heap.size w w' := by
  have HB := Lib.hid hb
  have hq : ∀ wq, (binOp .eql 32 (.slice (some ⟨b, o, none⟩) n c) (.slice none 0 0)).run Tryd.prog wq = .ok (.bool false) wq := fun wq => by
    simp only [binOp]
    simp [Op.equal, Op.maxDepth, Lib.run_equalIn_slice_nil (P := Tryd.prog) wq 9999 32 5 (some ⟨b, o, none⟩) n c 0 0 (by kernel_rfl)]
  clear hb
  go_enter Tryd.func109, Tryd.ntmps109
  go_wp2_with (at_builtin; refine wpList_append_bytes rfl (.tmp 5) (.tmp 6) rfl w.heap.size _ [] rfl (Own.empty w w.heap.size (Nat.le_refl _)) _ l rfl (HB.out.alloc _) ?q1 ?q2 ?_)
  case q1 => simp; omega
  case q2 => simp
  intro v2 w2 ho2 hg2 _
  have HO2 := Lib.hid ho2
  have hb2 := (Below.refl w.heap.size w).alloc (Nat.le_refl _) (.cells #[] 5) |>.grown hg2 (by simp) (fun k hk => by simp [Value.ownBlock] at hk; omega)
  obtain ⟨a2, c2, hv2, _, _⟩ := ho2.slice
  have HB2 := Lib.hid hb2
  try simp only [List.nil_append] at hv2
  try simp only [List.nil_append] at HO2
  rw [hv2] at HO2 ⊢
  clear ho2 hg2 hb2 hv2
  go_wp2
  go_ret
  exact ⟨⟨a2, c2, rfl, HO2.out⟩, HB2.out⟩

/-- a store below what is owned -/
theorem Own.setLow {w : World} {base g j : Nat} {v : Value} {l : List UInt8} (h : Own w base v l) (u : Value) (hg : g < base) : Own (w.setCell ⟨g, j, none⟩ u) base v l :=
  h.keep (grownBy_set (World.grownBy.refl w (some g)) j u) hg
/-- a number of a block -/
def numI (l : List UInt8) (A X : Int) : Int := ((Pg.num l A.toNat X.toNat : Nat) : Int)
theorem take_num (v : Value) (l : List UInt8) (A X : Int) (w : World) (hb : BytesAt w v l) (hx : Fld.right X = true) (hA : 0 ≤ A) (hat : A + X ≤ l.length) :
    Calls Tryd.prog 108 #[v, .int .i64 A, .int .i64 X] w fun e w' => e = .returned (.tuple #[.int .u64 (numI l A X), .nilIface]) ∧ w = w' := by
  obtain ⟨m, rfl⟩ : ∃ m : Nat, X = (m : Int) := ⟨X.toNat, by rcases Fld.right_cases hx with h | h | h | h <;> omega⟩
  obtain ⟨p, rfl⟩ : ∃ p : Nat, A = (p : Int) := ⟨A.toNat, by omega⟩
  exact take_ok v l p m w hb hx (by omega)

/-- a page of new memory -/
def GivesPage (w : World) (l : List UInt8) (e : Ending) (w' : World) : Prop :=
  ∃ a c, e = .returned (pageV (Pg.readL l) (.slice a (Pg.readL l).body.length c)) ∧ Own w' w.heap.size (.slice a (Pg.readL l).body.length c) (Pg.readL l).body
set_option maxRecDepth 100000 in
set_option maxHeartbeats 2000000 in
theorem read_any (b o c : Nat) (l : List UInt8) (w : World) (hb : BytesAt w (.slice (some ⟨b, o, none⟩) l.length c) l) (h1 : 24 ≤ l.length) (h2 : l.length ≤ 1024) :
    Calls Tryd.prog 104 #[.slice (some ⟨b, o, none⟩) l.length c] w fun e w' => GivesPage w l e w' ∧ Below w.heap.size w w' := by
  have hb1 := (hb.alloc (.cells #[.int .i64 0, .int .i64 0, .int .u64 0, .slice none 0 0] 78))
  have HB := Lib.hid hb1
  have hcc : l.length ≤ c ∧ c ≤ maxLen := by
    obtain ⟨a', c', e, q1, q2, _⟩ := hb
    simp only [Value.slice.injEq] at e
    obtain ⟨_, _, rfl⟩ := e
    exact ⟨q1, q2⟩
  unfold maxLen at hcc
  have hk : 0 ≤ numI l 0 1 ∧ numI l 0 1 < 256 := by have := Pg.num_lt l 0 1; unfold numI; simp; omega
  have hi : 0 ≤ numI l 4 4 ∧ numI l 4 4 < 4294967296 := by have := Pg.num_lt l 4 4; unfold numI; simp; omega
  have hn : 0 ≤ numI l 2 2 ∧ numI l 2 2 < 65536 := by have := Pg.num_lt l 2 2; unfold numI; simp; omega
  have hg : 0 ≤ numI l 8 8 ∧ numI l 8 8 < 18446744073709551616 := by have := Pg.num_lt l 8 8; unfold numI; simp; omega
  have HR := Lib.hid (show Pg.readL l = ⟨numI l 0 1, numI l 4 4, (numI l 8 8).toNat, if Pg.num l 2 2 ≤ l.length - 24 then (l.drop 20).take (Pg.num l 2 2) else []⟩ from rfl)
  by_cases hle : Pg.num l 2 2 ≤ l.length - 24
  · have hle' : numI l 2 2 ≤ (l.length : Int) - 24 := by unfold numI; simp; omega
    have hcut := (hb1.cut 20 (Pg.num l 2 2) (by omega)).alloc (.cells #[.int .i64 (numI l 0 1), .int .i64 (numI l 4 4), .int .u64 (numI l 8 8), .slice none 0 0] 78)
    rw [show Pg.num l 2 2 = (20 + numI l 2 2).toNat - 20 by unfold numI; simp; omega] at hcut
    have HCUT := Lib.hid hcut
    have hL : ((l.drop 20).take ((20 + numI l 2 2).toNat - 20)).length ≤ 1024 := by rw [List.length_take, List.length_drop]; omega
    have HR2 := Lib.hid (show (if Pg.num l 2 2 ≤ l.length - 24 then (l.drop 20).take (Pg.num l 2 2) else []) = (l.drop 20).take ((20 + numI l 2 2).toNat - 20) by rw [if_pos hle]; congr 1; unfold numI; simp; omega)
    rw [HR2.out] at HR
    generalize hLL : (l.drop 20).take ((20 + numI l 2 2).toNat - 20) = L at *
    clear hb hb1 hcut hLL HR2 hle
    go_enter Tryd.func104, Tryd.ntmps104
    go_wp2_with (first
      | (go_at_call 108; refine (take_num _ l _ _ _ HB.out (by decide) (by decide) (by omega)).mono ?_; rintro e w1 ⟨rfl, rfl⟩)
      | (go_at_call 109; refine (clone_any b _ _ _ L _ HCUT.out (by omega)).mono ?_; rintro e w1 ⟨⟨a2, c2, rfl, ho⟩, hbl⟩; obtain ⟨bc, bf⟩ := bcellB hbl; have HO := Lib.hid ho; have HBL := Lib.hid hbl; have hsz := hbl.size; clear ho hbl))
    simp only [World.size_alloc] at hsz
    have m0 : w1.cell? ⟨w.heap.size, 0, none⟩ = some (.int .i64 0) := by rw [bc _ _ (by simp; omega)]; go_simp
    have m1 : w1.cell? ⟨w.heap.size, 1, none⟩ = some (.int .i64 0) := by rw [bc _ _ (by simp; omega)]; go_simp
    have m2 : w1.cell? ⟨w.heap.size, 2, none⟩ = some (.int .u64 0) := by rw [bc _ _ (by simp; omega)]; go_simp
    have m3 : w1.cell? ⟨w.heap.size, 3, none⟩ = some (.slice none 0 0) := by rw [bc _ _ (by simp; omega)]; go_simp
    refine bodyPost_ret (v := .agg #[.int .i64 (numI l 0 1), .int .i64 (numI l 4 4), .int .u64 (numI l 8 8), .slice a2 L.length c2]) (by simp [results, Tryd.results104, go_sem, m0, m1, m2, m3]) rfl ?_
    refine ⟨⟨a2, c2, by rw [HR.out]; simp only [pageV]; rw [Int.toNat_of_nonneg hg.1], ?_⟩, (show Below w.heap.size w w1 from (show Below w.heap.size w _ by go_grown).trans (HBL.out.mono (by simp; omega))) |> fun h => by go_grown⟩
    rw [HR.out]
    simp only
    refine (Own.setLow (Own.setLow (Own.setLow (Own.setLow (Own.setLow HO.out _ ?q1) _ ?q2) _ ?q3) _ ?q4) _ ?q5).mono ?q9
    all_goals (simp; try omega)
  · have hle' : ¬ numI l 2 2 ≤ (l.length : Int) - 24 := by unfold numI; simp; omega
    rw [if_neg hle] at HR
    clear hb hb1 hle
    go_enter Tryd.func104, Tryd.ntmps104
    go_wp2_with (go_at_call 108; refine (take_num _ l _ _ _ HB.out (by decide) (by decide) (by omega)).mono ?_; rintro e w1 ⟨rfl, rfl⟩)
    refine bodyPost_ret (v := .agg #[.int .i64 (numI l 0 1), .int .i64 (numI l 4 4), .int .u64 (numI l 8 8), .slice none 0 0]) (by simp [results, Tryd.results104, go_sem]) rfl ?_
    exact ⟨⟨none, 0, by rw [HR.out]; simp only [pageV]; rw [Int.toNat_of_nonneg hg.1]; rfl, by rw [HR.out]; exact Own.nil _ _⟩, by go_grown⟩
end Go.Proofs.YtflbioiildndoaaDoor
