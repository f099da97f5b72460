/- pages: the walk of PageSeals -/
import Derived.Test.YtaofhdoieffhhaaDoorPageBursts
namespace Go.Proofs.YtaofhdoieffhhaaDoor
open Go.RowKit
set_option linter.unusedVariables false
set_option linter.unusedSimpArgs false

theorem box4_grownR {w w' : World} {row : Option Nat} {r : Nat} {v0 v1 v2 v3 : Value} (h : Box4 w r v0 v1 v2 v3) (hg : w.grownBy w' row) (hne : row ≠ some r) : Box4 w' r v0 v1 v2 v3 := by
  have hl := h.lt
  have e : w'.heap[r]? = w.heap[r]? := hg.block r hl (fun e => hne e.symm)
  constructor
  · have := h.c0; simp only [World.cell?, e] at this ⊢; exact this
  · have := h.c1; simp only [World.cell?, e] at this ⊢; exact this
  · have := h.c2; simp only [World.cell?, e] at this ⊢; exact this
  · have := h.c3; simp only [World.cell?, e] at this ⊢; exact this
  · have := h.f0; simp only [World.frozen?, e] at this ⊢; exact this
  · have := h.f1; simp only [World.frozen?, e] at this ⊢; exact this
  · have := h.f2; simp only [World.frozen?, e] at this ⊢; exact this
  · have := h.f3; simp only [World.frozen?, e] at this ⊢; exact this
theorem Own.emptyAt (w : World) (base n : Nat) (hn : w.heap.size = n) (h : base ≤ n) : Own (w.alloc (.cells #[] 5)) base (.slice (some ⟨n, 0, none⟩) 0 0) [] := by
  subst hn; exact Own.empty w base h
theorem sealP_cases (p : Pg.Page) (size : Int) : (Pg.checkC p size = 0 ∧ ∃ n : Nat, size = (n : Int) ∧ 24 + p.body.length ≤ n) ∨ Pg.checkC p size ≠ 0 := by
  by_cases h : Pg.checkC p size = 0
  · obtain ⟨h1, h2, h3, h4⟩ := Pg.check_ok h
    exact .inl ⟨h, size.toNat, by omega, by omega⟩
  · exact .inr h
theorem check_is (p : Pg.Page) (a : Option Addr) (c : Nat) (size : Int) (K : Nat) (hK : Pg.checkC p size = K) (w : World) (A : Nat → Addr) {S : Nat → Prop} [Has S 1] [Has S 2] [Has S 5] (hs : SentsOn S w A) (hsz : -9223372036854775808 ≤ size ∧ size ≤ 9223372036854775807) (hn : p.body.length ≤ 9223372036854775807) :
    Calls Tryd.prog 22 #[.agg #[.int .i64 p.kind, .int .i64 p.id, .int .u64 (p.gen : Int), .slice a p.body.length c], .int .i64 size] w fun e w' => (∃ v l, e = .returned v ∧ ErrIs w' A w.heap.size l K v) ∧ Below w.heap.size w w' := by
  subst hK; exact check_any p a c size w A hs hsz hn
/-- what page.Seal tells of a page of the call's own -/
def SealTold (w : World) (A : Nat → Addr) (L : List UInt8) (k : Nat) (e : Ending) (w' : World) : Prop :=
  ∃ a c ev lp, e = .returned (.tuple #[.slice a L.length c, ev]) ∧ Own w' w.heap.size (.slice a L.length c) L ∧ ErrIs w' A w.heap.size lp k ev
theorem seal_told (p : Pg.Page) (a : Option Addr) (c : Nat) (size : Int) (L : List UInt8) (K : Nat) (hK : Pg.checkC p size = K) (hL : L = if K = 0 then Pg.sealL p size.toNat else []) (w : World) (A : Nat → Addr) {S : Nat → Prop} [Has S 1] [Has S 2] [Has S 5] (hs : SentsOn S w A) (hsz : -9223372036854775808 ≤ size ∧ size ≤ 9223372036854775807) (hn : p.body.length ≤ 9223372036854775807) (hb : BytesAt w (.slice a p.body.length c) p.body) (hg : p.gen < 18446744073709551616) :
    Calls Tryd.prog 14 #[.agg #[.int .i64 p.kind, .int .i64 p.id, .int .u64 (p.gen : Int), .slice a p.body.length c], .int .i64 size] w fun e w' => SealTold w A L K e w' ∧ Below w.heap.size w w' := by
  subst hK
  rcases sealP_cases p size with ⟨h, n, rfl, _⟩ | h
  · rw [if_pos h, Int.toNat_natCast] at hL
    subst hL
    refine (seal_ok p a c n w A hs hb h hg).mono fun e w' ⟨hv, hbb⟩ => ⟨?_, hbb⟩
    obtain ⟨a2, c2, rfl, ho⟩ := hv.seen
    exact ⟨a2, c2, _, [], rfl, ho, by rw [h]; exact ErrIs.nil _ _ _⟩
  · rw [if_neg h] at hL
    subst hL
    refine (seal_bad p a c size w A hs hsz hn h).mono fun e w' ⟨⟨t, x, l, he, hE⟩, hbb⟩ => ⟨⟨none, 0, _, l, he, Own.nil _ _, hE⟩, hbb⟩

set_option maxRecDepth 100000 in
set_option maxHeartbeats 2000000 in
theorem pageSeals_walk (p : Pg.Page) (a0 : Option Addr) (c0 : Nat) (size : Int) (w : World) (A : Nat → Addr) (hs : Sents w A) (hp : BytesAt w (.slice a0 p.body.length c0) p.body) (hgen : p.gen < 18446744073709551616)
    (hsz : -9223372036854775808 ≤ size ∧ size ≤ 9223372036854775807) (hlen : p.body.length ≤ 140737488351232) :
    Calls Tryd.prog 5 #[.agg #[.int .i64 p.kind, .int .i64 p.id, .int .u64 (p.gen : Int), .slice a0 p.body.length c0], .int .i64 size] w fun e w' => e = .returned (.bool true) ∧ Below w.heap.size w w' := by
  have hpl : p.body.length ≤ 9223372036854775807 := by omega
  have HS := Lib.hid hs
  have HP := Lib.hid hp
  clear hs hp
  obtain ⟨K, hK⟩ : ∃ K, Pg.checkC p size = K := ⟨_, rfl⟩
  obtain ⟨L, hL⟩ : ∃ L, L = if K = 0 then Pg.sealL p size.toNat else [] := ⟨_, rfl⟩
  have HK := Lib.hid hK
  have HL := Lib.hid hL
  clear hK hL
  have he0 := Own.emptyAt ((w.alloc (.cells #[.int .i64 p.kind, .int .i64 p.id, .int .u64 (p.gen : Int), .slice a0 p.body.length c0] 25)).alloc (.cells #[.int .i64 p.kind, .int .i64 p.id, .int .u64 (p.gen : Int), .slice a0 p.body.length c0] 25)) (w.heap.size + 1 + 1) (w.heap.size + 1 + 1) (by simp) (Nat.le_refl _)
  have HE0 := Lib.hid he0
  clear he0
  go_enter Tryd.func5, Tryd.ntmps5
  go_wp2_with (at_builtin; refine wpList_append_bytes rfl (.tmp 11) (.tmp 13) rfl (w.heap.size + 1 + 1) _ [] rfl HE0.out _ p.body rfl (((HP.out.alloc _).alloc _).alloc _) (by simp; omega) (by simp) ?_)
  intro v1 w1 hown hgrow hnn
  have hX0 : Box4 w1 w.heap.size (.int .i64 p.kind) (.int .i64 p.id) (.int .u64 (p.gen : Int)) (.slice a0 p.body.length c0) := box4_grownR (((Box4.new w _ _ _ _ _).alloc _).alloc _) hgrow (by simp [Value.ownBlock]; omega)
  have hX1 : Box4 w1 (w.heap.size + 1) (.int .i64 p.kind) (.int .i64 p.id) (.int .u64 (p.gen : Int)) (.slice a0 p.body.length c0) := box4_grownR ((Box4.new2 w _ _ _ _ _ _).alloc _) hgrow (by simp [Value.ownBlock])
  have hb1 : Below w.heap.size w w1 := (show Below w.heap.size w _ by go_grown).grown hgrow (by simp; omega) (by intro k hk; simp [Value.ownBlock] at hk; omega)
  have HO := Lib.hid hown
  clear hgrow hown
  rcases HO.out.row with ⟨rfl, _⟩ | ⟨g, cap, rfl, hg1, hg2, hg3, hg4⟩
  · simp at hnn
  unfold maxLen at hg4
  have HB1 := Lib.hid hb1
  have hs1 := hb1.size
  obtain ⟨m0, m1, m2, m3, f0, f1, f2, f3⟩ := hX1
  have HX0 := Lib.hid hX0
  clear hnn hb1 hX0
  go_upto_region 3 with fail
  refine wp_name fun W hW => ?_
  have hX1 : Box4 W (w.heap.size + 1) (.int .i64 p.kind) (.int .i64 p.id) (.int .u64 (p.gen : Int)) (.slice (some ⟨g, 0, none⟩) p.body.length cap) := by
    rw [hW]
    constructor <;> go_simp
  have hbW : Below w.heap.size w W := by rw [hW]; have := HB1.out; go_grown
  have hOW : Own W (w.heap.size + 1 + 1) (.slice (some ⟨g, 0, none⟩) p.body.length cap) p.body := by rw [hW]; exact HO.out.setLow _ (by omega)
  have hX0 : Box4 W w.heap.size (.int .i64 p.kind) (.int .i64 p.id) (.int .u64 (p.gen : Int)) (.slice a0 p.body.length c0) := by
    rw [hW]; exact box4_grown HX0.out (grownBy_set (World.grownBy.refl _ (some (w.heap.size + 1))) _ _) (by omega)
  have hgW : g < W.heap.size := by rw [hW]; simpa using hg2
  clear HX0 m0 m1 m2 m3 f0 f1 f2 f3 HO hW hg2
  have HX0 := Lib.hid hX0
  have HX1 := Lib.hid hX1
  have HOW := Lib.hid hOW
  have HBW := Lib.hid hbW
  have hsW := hbW.size
  obtain ⟨m0, m1, m2, m3, -, -, -, -⟩ := hX1
  clear hX0 hOW hbW
  go_upto_region 4 with (go_at_call 14; (refine (seal_told p (some ⟨g, 0, none⟩) cap size L K HK.out HL.out _ A (HS.out.below HBW.out) hsz hpl HOW.out.bytes hgen).mono ?_); (rintro e w2 ⟨⟨a2, c2, ev, lp, rfl, ho2, hE2⟩, hb2⟩); (have HO2 := Lib.hid ho2); (have HE2 := Lib.hid hE2); (have HB2 := Lib.hid (HBW.out.trans (hb2.mono hsW))); (have hs2 := hb2.size); (have HX02 := Lib.hid (HX0.out.below hb2)); (have HX12 := Lib.hid (HX1.out.below hb2)); (have HOW2 := Lib.hid (HOW.out.below hb2 (Nat.le_refl _))); (clear ho2 hE2 hb2))
  go_wp2_with fail
  go_loopw [8] (fun i wr => ∃ j : Nat, j ≤ p.body.length ∧ i = .int .i64 j ∧ ∃ l', l'.length = p.body.length ∧ Own wr (w.heap.size + 1 + 1) (.slice (some ⟨g, 0, none⟩) p.body.length cap) l' ∧ w2.grownBy wr (some g)) (fun i _ => p.body.length - (intOf i).toNat)
  case atStart => exact ⟨0, by omega, rfl, p.body, rfl, HOW2.out, World.grownBy.refl _ _⟩
  case round =>
    obtain ⟨j, hj, rfl, l', hl', ho', hgr⟩ := hrel
    have HO' := Lib.hid ho'
    have HGR := Lib.hid hgr
    have HL' := Lib.hid hl'
    have XR1 := Lib.hid (box4_grown HX12.out hgr (by omega))
    obtain ⟨y0, y1, y2, y3, -, -, -, -⟩ := XR1.out
    clear ho' hgr hl'
    by_cases hlt : j < p.body.length
    · obtain ⟨y, hy⟩ := getElem?_some_of_lt (show j < l'.length by have := HL'.out; omega)
      have hcell := HO'.out.cell HL'.out.symm hy
      have hfree := HO'.out.free HL'.out.symm j
      have HW := Lib.hid (HO'.out.set (k := j) HL'.out.symm (255 ^^^ y))
      have hlt1 : (j : Int) < (p.body.length : Int) := by omega
      clear hy
      go_wp2
      have n3 := Near.cell (w := wr.drew) (row := none) y3 (by simp)
      have nc := Near.cell (w := wr.drew) (row := none) hcell (by simp)
      refine wp_region_mix (fun w' => ∃ x : Near wr.drew none, w' = x.world) [10] 11 (by kernel_rfl) rfl ?_
      refine mix_reads_lit [0, 1, 2, 3, 4, 5, 6, 7, 8, 9] 1 (by kernel_rfl) (by kernel_rfl) (by kernel_rfl) (by kernel_rfl) rfl (NearC.of (World.grownBy.refl _ _)) ?_
      simp only [pick, List.filterMap_cons, List.filterMap_nil, List.getElem?_cons_succ, List.getElem?_cons_zero]
      repeat (first | go_big_quiet_step (fail) | quiet_step (fail))
      refine wpQuiet_nil ?_
      refine mix_deed_lit 10 0 (by kernel_rfl) (by kernel_rfl) rfl (fun K hK => ?_)
      simp only [comesUp, List.getElem?_cons_succ, List.getElem?_cons_zero]
      refine if_mk rfl ?_
      go_simp
      refine hK _ _ (fun h => by simp [keeps] at h) ?_
      clear hK K
      refine mix_done_lit (by kernel_rfl) ?_
      go_wp2_with fail
      go_roundw
      case rel =>
        rw [not_u8]
        exact ⟨j + 1, by omega, by go_num, _, by rw [List.length_set, HL'.out], HW.out.below (Below.refl _ _).drew (Nat.le_refl _), grown_trans (grownBy_set HGR.out _ _) (grown_of_below (Below.refl _ _).drew (Nat.le_refl _) _)⟩
      case measure => simp [intOf]; omega
    · have hbr := HB2.out.grown HGR.out (by omega) (fun k hk => by cases hk; omega)
      have HBR := Lib.hid hbr
      have OR := Lib.hid (HO2.out.keep HGR.out (by omega))
      have ER := Lib.hid (HE2.out.grown HGR.out (fun k hk => by cases hk; omega))
      have XR := Lib.hid (box4_grown HX02.out HGR.out (by omega))
      obtain ⟨u0, u1, u2, u3, -, -, -, -⟩ := XR.out
      obtain ⟨KI, hKI⟩ : ∃ KI : Int, ((K : Nat) : Int) = KI := ⟨_, rfl⟩
      have HKI := Lib.hid hKI
      have hsz2 := sealP_cases p size
      clear hj hbr
      by_cases hk0 : K = 0
      · have hkb : (KI != 0) = false := by simp; omega
        have hLL := HL.out
        rw [if_pos hk0] at hLL
        obtain ⟨hc0, n, rfl, hn⟩ : Pg.checkC p size = 0 ∧ ∃ n : Nat, size = (n : Int) ∧ 24 + p.body.length ≤ n := by
          rcases hsz2 with h | h
          · exact h
          · exact absurd (HK.out.trans hk0) h
        have HC0 := Lib.hid hc0
        rw [Int.toNat_natCast] at hLL
        have HLL := Lib.hid hLL
        have hll : (L == L) = true := by simp
        clear hKI hk0 hLL hc0 hsz2
        go_wp2_with (first
          | (go_at_call 20; (refine (refCheck_is p a0 c0 _ KI (by rw [HK.out, HKI.out]) _ hsz hpl).mono ?_); (rintro e w3 ⟨rfl, hb3⟩); (have HB3 := Lib.hid (below_step HBR.out hb3)); (have HE3 := Lib.hid (ER.out.below' hb3)); (have HO3 := Lib.hid (OR.out.bytes.below hb3)); (have HX3 := Lib.hid (XR.out.below hb3)); (obtain ⟨x0, x1, x2, x3, -, -, -, -⟩ := HX3.out); (clear hb3))
          | (go_at_call 22; (refine (check_is p a0 c0 _ K HK.out _ A (HS.out.below HB3.out) hsz hpl).mono ?_); (rintro e w4 ⟨⟨v4, l4, rfl, hE4⟩, hb4⟩); (have HB4 := Lib.hid (below_step HB3.out hb4)); (have HE4 := Lib.hid hE4); (have HO4 := Lib.hid (HO3.out.below hb4)); (obtain ⟨z0, z1, z2, z3, -, -, -, -⟩ := HX3.out.below hb4); (clear hb4 hE4))
          | (go_at_call 21; (refine (tells05_any (HS.out.below HB4.out) l4 K _ HE4.out _ HKI.out.symm).mono ?_); (rintro e w9 ⟨rfl, rfl⟩))
          | (go_at_call 21; (refine (tells05_any (HS.out.below HB3.out) lp K _ HE3.out _ HKI.out.symm).mono ?_); (rintro e w9 ⟨rfl, rfl⟩))
          | (go_at_call 23; (refine (refSeal_ok p a0 c0 n _ (HP.out.below HB4.out) HC0.out hgen).mono ?_); (rintro e w5 ⟨⟨a5, c5, rfl, ho5⟩, hb5⟩); (rw [← HLL.out] at ho5 ⊢); (have HB5 := Lib.hid (below_step HB4.out hb5)); (have HO5 := Lib.hid ho5.bytes); (have HO45 := Lib.hid (HO4.out.below hb5)); (clear hb5 ho5))
          | (go_at_call 17; (refine (same_any _ _ L L _ HO45.out HO5.out).mono ?_); (rintro e w7 ⟨rfl, hb7⟩); (have HB7 := Lib.hid (below_step HB5.out hb7)); (clear hb7))
          | (go_at_call 18; (refine (pageAwake_any _ A (HS.out.below HB7.out)).mono ?_); (rintro e w8 ⟨rfl, hb8⟩); (have HB8 := Lib.hid (below_step HB7.out hb8)); (clear hb8)))
        go_ret
        exact ⟨rfl, HB8.out⟩
      · have hkb : (KI != 0) = true := by simp; omega
        have hLL := HL.out
        rw [if_neg hk0] at hLL
        subst hLL
        clear hKI hk0 hsz2
        go_wp2_with (first
          | (go_at_call 20; (refine (refCheck_is p a0 c0 _ KI (by rw [HK.out, HKI.out]) _ hsz hpl).mono ?_); (rintro e w3 ⟨rfl, hb3⟩); (have HB3 := Lib.hid (below_step HBR.out hb3)); (have HE3 := Lib.hid (ER.out.below' hb3)); (have HO3 := Lib.hid (OR.out.bytes.below hb3)); (have HX3 := Lib.hid (XR.out.below hb3)); (obtain ⟨x0, x1, x2, x3, -, -, -, -⟩ := HX3.out); (clear hb3))
          | (go_at_call 22; (refine (check_is p a0 c0 _ K HK.out _ A (HS.out.below HB3.out) hsz hpl).mono ?_); (rintro e w4 ⟨⟨v4, l4, rfl, hE4⟩, hb4⟩); (have HB4 := Lib.hid (below_step HB3.out hb4)); (have HE4 := Lib.hid hE4); (have HO4 := Lib.hid (HO3.out.below hb4)); (obtain ⟨z0, z1, z2, z3, -, -, -, -⟩ := HX3.out.below hb4); (clear hb4 hE4))
          | (go_at_call 21; (refine (tells05_any (HS.out.below HB4.out) l4 K _ HE4.out _ HKI.out.symm).mono ?_); (rintro e w9 ⟨rfl, rfl⟩))
          | (go_at_call 21; (refine (tells05_any (HS.out.below HB3.out) lp K _ HE3.out _ HKI.out.symm).mono ?_); (rintro e w9 ⟨rfl, rfl⟩))
          | (go_at_call 18; (refine (pageAwake_any _ A (HS.out.below HB4.out)).mono ?_); (rintro e w8 ⟨rfl, hb8⟩); (have HB8 := Lib.hid (below_step HB4.out hb8)); (clear hb8)))
        go_ret
        exact ⟨rfl, HB8.out⟩
end Go.Proofs.YtaofhdoieffhhaaDoor
