/- the statements of caches: CachePins -/
import Derived.Test.YtflbioiildndoaaDoorCacheA
import Derived.Test.YtflbioiildndoaaDoorTells08
namespace Go.Proofs.YtflbioiildndoaaDoor
open Go.RowKit
set_option linter.unusedVariables false
set_option linter.unusedSimpArgs false

theorem cheld_some {U : Nat → Prop} {w : World} {c dp rg rc : Nat} {C : Ch.Cache} (h : CIn U w c dp rg rc C) (hl : C.slots.length ≤ 64) (L : List Int) (hL : Ch.held C = L) (hne : L ≠ []) :
    Calls Tryd.prog 41 #[.pointer (some ⟨c, 0, none⟩)] w fun e w' => (∃ g cc, e = .returned (.slice (some ⟨g, 0, none⟩) L.length cc) ∧ OwnI w' w.heap.size (.slice (some ⟨g, 0, none⟩) L.length cc) L) ∧ Below w.heap.size w w' :=
  (cheld_is h hl L hL).mono fun e w' ⟨⟨a, cc, he, ho⟩, hb⟩ => by
    rcases ho.row with ⟨_, h⟩ | ⟨g, cap, hv, _⟩
    · exact absurd h hne
    · obtain ⟨rfl, rfl⟩ : a = some ⟨g, 0, none⟩ ∧ cc = cap := by injection hv with h1 h2 h3; exact ⟨h1, h3⟩
      exact ⟨⟨g, cc, he, ho⟩, hb⟩
/-- how many of the first k numbers are seven -/
def sevens (L : List Int) (k : Nat) : Nat := ((L.take k).filter fun x => decide (x = 7)).length
theorem sevens_step {L : List Int} {k : Nat} {x : Int} (h : L[k]? = some x) : sevens L (k + 1) = sevens L k + if x = 7 then 1 else 0 := by
  unfold sevens
  rw [List.take_add_one, h, List.filter_append, List.length_append]
  congr 1
  simp only [Option.toList_some, List.filter_cons, List.filter_nil]
  split <;> simp_all
theorem sevens_le (L : List Int) (k : Nat) : sevens L k ≤ k := by
  unfold sevens
  exact Nat.le_trans (List.length_filter_le _ _) (by rw [List.length_take]; omega)
theorem Ch.PinOk.mono {n m k s : Nat} {c : Ch.Cache} (h : Ch.PinOk n k s c) (hm : n ≤ m) : Ch.PinOk m k s c := ⟨h.good.mono hm, h.len, h.many, h.count, h.seven, h.which⟩

set_option maxRecDepth 100000 in
set_option maxHeartbeats 8000000 in
theorem cachePins_walk (n : Int) (lv : Value) (l : List CCall) (w : World) (A : Nat → Addr) (hs : Sents w A) (hl : RowAt eCC w lv l) :
    Calls Tryd.prog 10 #[.int .i64 n, lv] w fun e w' => e = .returned (.bool true) ∧ Below w.heap.size w w' := by
  obtain ⟨M, hM⟩ : ∃ M, Ch.madeD 6 = M := ⟨_, rfl⟩
  obtain ⟨s, hsn⟩ : ∃ s, slotsN n = s := ⟨_, rfl⟩
  have hsb : 3 ≤ s ∧ s ≤ 6 := by rw [← hsn]; exact slotsN_bd n
  obtain ⟨C1, e1, k1⟩ := Ch.pin_first (Ch.madeD_ok (Nat.le_refl 6)) hsb
  have hok0 := (Ch.new_good (Ch.madeD_ok (Nat.le_refl 6)) hsb.1 hsb.2).1.ok
  rw [hM] at e1 hok0
  have HE1 := Lib.hid e1
  have HK1 := Lib.hid k1
  have HO0 := Lib.hid hok0
  have HS := Lib.hid hs
  have HM := Lib.hid hM
  have HSN := Lib.hid hsn
  have HL := Lib.hid hl
  obtain ⟨aa, ac, rfl, -, -, -⟩ := id hl
  clear hs hM e1 k1 hok0 hsn hl
  go_enter Tryd.func10, Tryd.ntmps10
  go_upto_region 2 with (first
    | (go_at_call 36; (refine (made08_is (s : Int) s rfl (by omega) M HM.out w A HS.out).mono ?_); (rintro e w1 ⟨⟨c, dp, rg, rc, U, rfl, hC, hge⟩, hb1⟩); (have HC := Lib.hid hC); (have HGE := Lib.hid hge); (have HB1 := Lib.hid hb1); (clear hC hge hb1))
    | (go_at_call 37; (refine (slots08_is n s HSN.out _).mono ?_); (rintro e w0 ⟨rfl, rfl⟩)))
  have hs1 : w.heap.size ≤ w1.heap.size := HB1.out.size
  go_upto_region 4 with (go_at_call 43; (refine (cpin_is HC.out HO0.out (by omega) 7 HE1.out A (fun wx hx => HS.out.below (HB1.out.trans (hx.below HGE.out hs1)))).mono ?_); (rintro e w2 ⟨l2, v2, rfl, hE2, hC2, hB2⟩); (obtain ⟨rfl, rfl⟩ := hE2.isNil); (have HC2 := Lib.hid hC2); (have HB2 := Lib.hid hB2); (clear hE2 hC2 hB2))
  have hs2 : w1.heap.size ≤ w2.heap.size := HB2.out.size
  have HBW2 := Lib.hid (HB1.out.trans (HB2.out.below HGE.out hs1))
  have HU2 := Lib.hid (show ∀ k, More U w1 w2 k → w.heap.size ≤ k from fun k hk => hk.elim (HGE.out k) fun h => by omega)
  go_wp2_with fail
  go_loopw [7] (fun i wr => ∃ (k : Nat) (C : Ch.Cache) (U' : Nat → Prop), k ≤ l.length ∧ k ≤ 60 ∧ i = .int .i64 (k : Int) ∧ Ch.PinOk (7 + k) 1 s C ∧ CIn U' wr c dp rg rc C ∧ (∀ j, U' j → w.heap.size ≤ j) ∧ Below w.heap.size w wr) (fun i _ => 60 - (intOf i).toNat)
  case atStart => exact ⟨0, _, _, by omega, by omega, rfl, HK1.out, HC2.out, HU2.out, HBW2.out⟩
  case round =>
    clear HC2 HU2 HBW2 HK1 HE1
    obtain ⟨k, C, U', hk, hk6, rfl, hkp, hc, hge, hb⟩ := hrel
    have HK := Lib.hid hkp
    have HC := Lib.hid hc
    have HU' := Lib.hid hge
    have HBR := Lib.hid hb
    clear hkp hc hge hb
    have hsr : w.heap.size ≤ wr.heap.size := HBR.out.size
    by_cases hcont : k < l.length ∧ k < 60
    · obtain ⟨hlt, h60⟩ := hcont
      have hlt1 : (k : Int) < (l.length : Int) := by omega
      have h601 : (k : Int) < 60 := by omega
      obtain ⟨a, ha⟩ := getElem?_some_of_lt hlt
      have hrow := HL.out.below HBR.out
      obtain ⟨b, o, rfl⟩ : ∃ b o, aa = some ⟨b, o, none⟩ := by
        obtain ⟨x, cc, hv, -, -, h3⟩ := hrow
        rcases h3 with h3 | ⟨b, o, rfl, -⟩
        · rw [h3] at hlt; exact absurd hlt (by simp)
        · injection hv with hv; exact ⟨b, o, hv⟩
      obtain ⟨c0, c1, c2, c3⟩ := hrow.call ha
      obtain ⟨j, hj⟩ : ∃ j : Nat, 2 + (a.id % 18446744073709551616 % 5) = (j : Int) := ⟨(2 + (a.id % 18446744073709551616 % 5)).toNat, by omega⟩
      have hj2 : 2 ≤ j ∧ j ≤ 6 := by omega
      have hm1 := mod_spell8 a.id 5 (by decide) (by decide)
      obtain ⟨r, hr⟩ : ∃ r : Int, a.id % 18446744073709551616 % 5 = r := ⟨_, rfl⟩
      rw [hr] at hm1 hj
      have hr2 : r = (j : Int) - 2 := by omega
      subst hr2
      have hm2 : IntKind.i64.wrap (2 + ((j : Int) - 2)) = (j : Int) := by rw [IntKind.wrap_i64]; omega
      obtain ⟨C4, e4, k4⟩ := HK.out.get (by omega) (id := (j : Int)) (by omega) (by omega)
      obtain ⟨f, hf⟩ : ∃ f, UInt8.ofNat (j : Int).toNat = f := ⟨_, rfl⟩
      have HE4 := Lib.hid (show Ch.get C (j : Int) = (C4, Ch.leafP (j : Int) f, 0) by rw [e4]; unfold Ch.V0; rw [hf])
      have HK4 := Lib.hid k4
      obtain ⟨HL4, hHL⟩ : ∃ HL, Ch.held C4 = HL := ⟨_, rfl⟩
      have h7 := k4.held7
      rw [hHL] at h7
      have HHL := Lib.hid hHL
      have hne : HL4 ≠ [] := by intro e; rw [e] at h7; simp at h7
      have hsev : sevens HL4 HL4.length = 1 := by unfold sevens; rw [List.take_length]; exact h7
      have hl64 : HL4.length ≤ 64 := by
        rw [← hHL]
        unfold Ch.held
        rw [List.length_map]
        exact Nat.le_trans (List.length_filter_le _ _) (by have := k4.len; omega)
      have HSEV := Lib.hid hsev
      have HNE := Lib.hid hne
      clear hr hj ha hrow e4 k4 hf hHL h7 hsev hne
      go_upto_region 12 with (go_at_call 40; (refine (cgetLeaf_is HC.out HK.out.good.ok (by omega) (j : Int) (j : Int) f HE4.out A (fun wx hx => HS.out.below (HBR.out.trans (hx.below HU'.out hsr)))).mono ?_); (rintro e w4 ⟨g4, c4, rfl, hO4, hC4, hB4⟩); (have HC4 := Lib.hid hC4); (have HB4 := Lib.hid hB4); (clear hO4 hC4 hB4))
      have hs4 : wr.heap.size ≤ w4.heap.size := HB4.out.size
      refine wp_name fun W hW => ?_
      have hbW : Below w4.heap.size w4 W := by rw [hW]; exact (Below.refl _ _).alloc (Nat.le_refl _) _
      have HCW := Lib.hid (HC4.out.below hbW)
      have HBW := Lib.hid ((HBR.out.trans (HB4.out.below HU'.out hsr)).trans (hbW.mono (by omega)))
      have hsW : w4.heap.size ≤ W.heap.size := hbW.size
      have HUW := Lib.hid (show ∀ k, More U' wr w4 k → w.heap.size ≤ k from fun k hk => hk.elim (HU'.out k) fun h => by omega)
      clear hW hbW c0 c1 c2 c3
      go_upto_region 13 with (go_at_call 41; (refine (cheld_some HCW.out HK4.out.good.ok.len.2 HL4 HHL.out HNE.out).mono ?_); (rintro e w5 ⟨⟨g5, c5, rfl, ho5⟩, hb5⟩); (have HO5 := Lib.hid ho5); (have HB5 := Lib.hid hb5); (clear ho5 hb5))
      have HC5 := Lib.hid (HCW.out.below HB5.out)
      have HBW5 := Lib.hid (below_step HBW.out HB5.out)
      go_wp2_with fail
      go_loopw [11, 60] (fun h i wx => ∃ q : Nat, q ≤ HL4.length ∧ i = .int .i64 (q : Int) ∧ h = .int .i64 ((sevens HL4 q : Nat) : Int) ∧ wx = w5) (fun _ i _ => HL4.length - (intOf i).toNat)
      case atStart => exact ⟨0, by omega, rfl, rfl, rfl⟩
      case round =>
        obtain ⟨q, hq, rfl, rfl, rfl⟩ := hrel
        obtain ⟨m, hm⟩ : ∃ m, sevens HL4 q = m := ⟨_, rfl⟩
        have hmq : m ≤ q := by rw [← hm]; exact sevens_le HL4 q
        rw [hm]
        have HMQ := Lib.hid hm
        clear hm
        by_cases hql : q < HL4.length
        · have hq1 : (q : Int) < (HL4.length : Int) := by omega
          obtain ⟨x, hx⟩ := getElem?_some_of_lt hql
          have HST := Lib.hid (sevens_step hx)
          have hcell := HO5.out.cell rfl hx
          have hwm : IntKind.i64.wrap ((m : Int) + 1) = (m : Int) + 1 := IntWalk.i64_in _ (by omega)
          by_cases h7 : x = 7
          · subst h7
            clear hx
            go_wp2_with fail
            go_roundw
            case rel => exact ⟨q + 1, by omega, by go_num, by rw [HST.out, HMQ.out]; simp, by first | rfl | trivial⟩
            case measure => simp [intOf]; omega
          · have h7b : (x == 7) = false := by simp [h7]
            clear hx
            go_wp2_with fail
            go_roundw
            case rel => exact ⟨q + 1, by omega, by go_num, by rw [HST.out, HMQ.out]; simp [h7], by first | rfl | trivial⟩
            case measure => simp [intOf]; omega
        · obtain rfl : q = HL4.length := by omega
          obtain rfl : m = 1 := HMQ.out.symm.trans HSEV.out
          go_wp2_with fail
          go_roundw
          case rel => exact ⟨k + 1, C4, _, by omega, by omega, by go_num, HK4.out.mono (by omega), HC5.out, HUW.out, HBW5.out⟩
          case measure => simp [intOf]; omega
    · by_cases hlt : k < l.length
      · have hlt1 : (k : Int) < (l.length : Int) := by omega
        have h601 : ¬ (k : Int) < 60 := by omega
        clear hcont
        have HKX := Lib.hid (HK.out.mono (show 7 + k ≤ 67 by omega))
        clear HK
        go_upto_region 21 with fail
        go_wp2_with fail
        go_loopw [14] (fun i wx => ∃ (m : Nat) (C' : Ch.Cache) (U2 : Nat → Prop), 1 ≤ m ∧ m ≤ s ∧ i = .int .i64 ((m : Int) + 1) ∧ Ch.PinOk (67 + m) m s C' ∧ CIn U2 wx c dp rg rc C' ∧ (∀ j, U2 j → w.heap.size ≤ j) ∧ Below w.heap.size w wx) (fun i _ => s + 1 - (intOf i).toNat)
        case atStart => exact ⟨1, C, _, by omega, by omega, rfl, HKX.out.mono (by omega), HC.out, HU'.out, HBR.out⟩
        case round =>
          clear HC HU' HBR HKX
          obtain ⟨m, C', U2, hm1, hms, rfl, hkp, hc, hge, hb⟩ := hrel
          have HKm := Lib.hid hkp
          have HCm := Lib.hid hc
          have HUm := Lib.hid hge
          have HBm := Lib.hid hb
          clear hkp hc hge hb
          have hsr2 : w.heap.size ≤ wr.heap.size := HBm.out.size
          have hw1 : IntKind.i64.wrap (1 + (s : Int)) = (s : Int) + 1 := by rw [IntKind.wrap_i64]; omega
          have hw2 : IntKind.i64.wrap ((m : Int) + 1 + 1) = (m : Int) + 1 + 1 := by rw [IntKind.wrap_i64]; omega
          by_cases hlm : m < s
          · have hlm1 : (m : Int) + 1 < (s : Int) + 1 := by omega
            obtain ⟨C3, e3, k3⟩ := HKm.out.pin hlm hm1
            have HE3 := Lib.hid e3
            have HK3 := Lib.hid k3
            clear e3 k3
            go_upto_region 22 with (first
              | (go_at_call 43; (refine (cpin_is HCm.out HKm.out.good.ok (by omega) ((m : Int) + 1) HE3.out A (fun wx hx => HS.out.below (HBm.out.trans (hx.below HUm.out hsr2)))).mono ?_); (rintro e w6 ⟨l6, v6, rfl, hE6, hC6, hB6⟩); (obtain ⟨rfl, rfl⟩ := hE6.isNil); (have HC6 := Lib.hid hC6); (have HB6 := Lib.hid hB6); (clear hE6 hC6 hB6))
              | (go_at_call 37; (refine (slots08_is n s HSN.out _).mono ?_); (rintro e w0 ⟨rfl, rfl⟩)))
            have hs6 : wr.heap.size ≤ w6.heap.size := HB6.out.size
            have HBW6 := Lib.hid (HBm.out.trans (HB6.out.below HUm.out hsr2))
            have HU6 := Lib.hid (show ∀ k, More U2 wr w6 k → w.heap.size ≤ k from fun k hk => hk.elim (HUm.out k) fun h => by omega)
            go_wp2_with fail
            go_roundw
            case rel => exact ⟨m + 1, C3, _, by omega, by omega, by go_num, HK3.out, HC6.out, HU6.out, HBW6.out⟩
            case measure => simp [intOf]; omega
          · obtain rfl : m = s := by omega
            go_upto_region 25 with (go_at_call 37; (refine (slots08_is n m HSN.out _).mono ?_); (rintro e w0 ⟨rfl, rfl⟩))
            by_cases h6 : 6 ≤ m
            · have h6i : (6 : Int) ≤ (m : Int) := by omega
              go_wp2_with (first
                | (go_at_call 37; (refine (slots08_is n m HSN.out _).mono ?_); (rintro e w0 ⟨rfl, rfl⟩))
                | (go_at_call 42; (refine (awake08_any _ A (HS.out.below HBm.out)).mono ?_); (rintro e w9 ⟨rfl, hb9⟩); (have HB9 := Lib.hid hb9); (clear hb9)))
              go_ret
              exact ⟨rfl, below_step HBm.out HB9.out⟩
            · have h6i : ¬ (6 : Int) ≤ (m : Int) := by omega
              have HE7 := Lib.hid (HKm.out.noRoom (by omega))
              go_upto_region 28 with (first
                | (go_at_call 40; (refine (cget_is HCm.out HKm.out.good.ok (by omega) 6 HE7.out A (fun wx hx => HS.out.below (HBm.out.trans (hx.below HUm.out hsr2)))).mono ?_); (rintro e w7 ⟨l7, v7, a7, c7, rfl, hE7, hO7, hC7, hB7⟩); (have HE8 := Lib.hid hE7); (have HB7 := Lib.hid hB7); (clear hE7 hO7 hC7 hB7))
                | (go_at_call 37; (refine (slots08_is n m HSN.out _).mono ?_); (rintro e w0 ⟨rfl, rfl⟩)))
              have HBW7 := Lib.hid (HBm.out.trans (HB7.out.below HUm.out hsr2))
              have hs7 : wr.heap.size ≤ w7.heap.size := HB7.out.size
              refine wp_name fun W2 hW2 => ?_
              have hbW2 : Below w7.heap.size w7 W2 := by rw [hW2]; exact (Below.refl _ _).alloc (Nat.le_refl _) _
              have HBWW := Lib.hid (below_step HBW7.out hbW2)
              have HE9 := Lib.hid (HE8.out.below hbW2)
              clear hW2 hbW2
              go_wp2_with (first
                | (go_at_call 44; (refine (tells08_any (HS.out.below HBWW.out) _ 3 _ HE9.out 3 rfl).mono ?_); (rintro e w8 ⟨rfl, rfl⟩))
                | (go_at_call 42; (refine (awake08_any _ A (HS.out.below HBWW.out)).mono ?_); (rintro e w9 ⟨rfl, hb9⟩); (have HB9 := Lib.hid hb9); (clear hb9)))
              go_ret
              exact ⟨rfl, below_step HBWW.out HB9.out⟩
      · have hlt1 : ¬ (k : Int) < (l.length : Int) := by omega
        clear hcont
        have HKX := Lib.hid (HK.out.mono (show 7 + k ≤ 67 by omega))
        clear HK
        go_upto_region 21 with fail
        go_wp2_with fail
        go_loopw [14] (fun i wx => ∃ (m : Nat) (C' : Ch.Cache) (U2 : Nat → Prop), 1 ≤ m ∧ m ≤ s ∧ i = .int .i64 ((m : Int) + 1) ∧ Ch.PinOk (67 + m) m s C' ∧ CIn U2 wx c dp rg rc C' ∧ (∀ j, U2 j → w.heap.size ≤ j) ∧ Below w.heap.size w wx) (fun i _ => s + 1 - (intOf i).toNat)
        case atStart => exact ⟨1, C, _, by omega, by omega, rfl, HKX.out.mono (by omega), HC.out, HU'.out, HBR.out⟩
        case round =>
          clear HC HU' HBR HKX
          obtain ⟨m, C', U2, hm1, hms, rfl, hkp, hc, hge, hb⟩ := hrel
          have HKm := Lib.hid hkp
          have HCm := Lib.hid hc
          have HUm := Lib.hid hge
          have HBm := Lib.hid hb
          clear hkp hc hge hb
          have hsr2 : w.heap.size ≤ wr.heap.size := HBm.out.size
          have hw1 : IntKind.i64.wrap (1 + (s : Int)) = (s : Int) + 1 := by rw [IntKind.wrap_i64]; omega
          have hw2 : IntKind.i64.wrap ((m : Int) + 1 + 1) = (m : Int) + 1 + 1 := by rw [IntKind.wrap_i64]; omega
          by_cases hlm : m < s
          · have hlm1 : (m : Int) + 1 < (s : Int) + 1 := by omega
            obtain ⟨C3, e3, k3⟩ := HKm.out.pin hlm hm1
            have HE3 := Lib.hid e3
            have HK3 := Lib.hid k3
            clear e3 k3
            go_upto_region 22 with (first
              | (go_at_call 43; (refine (cpin_is HCm.out HKm.out.good.ok (by omega) ((m : Int) + 1) HE3.out A (fun wx hx => HS.out.below (HBm.out.trans (hx.below HUm.out hsr2)))).mono ?_); (rintro e w6 ⟨l6, v6, rfl, hE6, hC6, hB6⟩); (obtain ⟨rfl, rfl⟩ := hE6.isNil); (have HC6 := Lib.hid hC6); (have HB6 := Lib.hid hB6); (clear hE6 hC6 hB6))
              | (go_at_call 37; (refine (slots08_is n s HSN.out _).mono ?_); (rintro e w0 ⟨rfl, rfl⟩)))
            have hs6 : wr.heap.size ≤ w6.heap.size := HB6.out.size
            have HBW6 := Lib.hid (HBm.out.trans (HB6.out.below HUm.out hsr2))
            have HU6 := Lib.hid (show ∀ k, More U2 wr w6 k → w.heap.size ≤ k from fun k hk => hk.elim (HUm.out k) fun h => by omega)
            go_wp2_with fail
            go_roundw
            case rel => exact ⟨m + 1, C3, _, by omega, by omega, by go_num, HK3.out, HC6.out, HU6.out, HBW6.out⟩
            case measure => simp [intOf]; omega
          · obtain rfl : m = s := by omega
            go_upto_region 25 with (go_at_call 37; (refine (slots08_is n m HSN.out _).mono ?_); (rintro e w0 ⟨rfl, rfl⟩))
            by_cases h6 : 6 ≤ m
            · have h6i : (6 : Int) ≤ (m : Int) := by omega
              go_wp2_with (first
                | (go_at_call 37; (refine (slots08_is n m HSN.out _).mono ?_); (rintro e w0 ⟨rfl, rfl⟩))
                | (go_at_call 42; (refine (awake08_any _ A (HS.out.below HBm.out)).mono ?_); (rintro e w9 ⟨rfl, hb9⟩); (have HB9 := Lib.hid hb9); (clear hb9)))
              go_ret
              exact ⟨rfl, below_step HBm.out HB9.out⟩
            · have h6i : ¬ (6 : Int) ≤ (m : Int) := by omega
              have HE7 := Lib.hid (HKm.out.noRoom (by omega))
              go_upto_region 28 with (first
                | (go_at_call 40; (refine (cget_is HCm.out HKm.out.good.ok (by omega) 6 HE7.out A (fun wx hx => HS.out.below (HBm.out.trans (hx.below HUm.out hsr2)))).mono ?_); (rintro e w7 ⟨l7, v7, a7, c7, rfl, hE7, hO7, hC7, hB7⟩); (have HE8 := Lib.hid hE7); (have HB7 := Lib.hid hB7); (clear hE7 hO7 hC7 hB7))
                | (go_at_call 37; (refine (slots08_is n m HSN.out _).mono ?_); (rintro e w0 ⟨rfl, rfl⟩)))
              have HBW7 := Lib.hid (HBm.out.trans (HB7.out.below HUm.out hsr2))
              have hs7 : wr.heap.size ≤ w7.heap.size := HB7.out.size
              refine wp_name fun W2 hW2 => ?_
              have hbW2 : Below w7.heap.size w7 W2 := by rw [hW2]; exact (Below.refl _ _).alloc (Nat.le_refl _) _
              have HBWW := Lib.hid (below_step HBW7.out hbW2)
              have HE9 := Lib.hid (HE8.out.below hbW2)
              clear hW2 hbW2
              go_wp2_with (first
                | (go_at_call 44; (refine (tells08_any (HS.out.below HBWW.out) _ 3 _ HE9.out 3 rfl).mono ?_); (rintro e w8 ⟨rfl, rfl⟩))
                | (go_at_call 42; (refine (awake08_any _ A (HS.out.below HBWW.out)).mono ?_); (rintro e w9 ⟨rfl, hb9⟩); (have HB9 := Lib.hid hb9); (clear hb9)))
              go_ret
              exact ⟨rfl, below_step HBWW.out HB9.out⟩
end Go.Proofs.YtflbioiildndoaaDoor
