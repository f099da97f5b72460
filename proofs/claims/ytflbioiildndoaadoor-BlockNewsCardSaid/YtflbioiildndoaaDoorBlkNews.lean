/- the statement BlockNews: its walk -/
import Derived.Test.YtflbioiildndoaaDoorBlkLaw2
namespace Go.Proofs.YtflbioiildndoaaDoor
open Go.RowKit
set_option linter.unusedVariables false
set_option linter.unusedSimpArgs false

set_option maxRecDepth 100000 in
theorem blockNews_walk (b s : Int) (w : World) (A : Nat → Addr) (hs : Sents w A) :
    Calls Tryd.prog 3 #[.agg #[.int .i64 b, .int .i64 s]] w fun e w' => e = .returned (.bool true) ∧ Below w.heap.size w w' := by
  have HS := Lib.hid hs
  clear hs
  cases hr : rightG b s with
  | false =>
    have HR := Lib.hid hr
    clear hr
    go_enter Tryd.func3, Tryd.ntmps3
    go_upto_region 1 with fail
    refine wp_name fun W hW => ?_
    have HX := Lib.hid (show BoxAt W w.heap.size [.int .i64 b, .int .i64 s] by rw [hW]; exact (BoxAt.new w [_, _] _))
    have HB := Lib.hid (show Below w.heap.size w W by rw [hW]; go_grown)
    clear hW
    obtain ⟨m0, m1⟩ := HX.out.two
    go_upto_region 2 with (go_at_call 13; (refine (new_bad4 b s HR.out _ A (HS.out.below HB.out)).mono ?_); (rintro e w2 ⟨⟨E, rfl, hE⟩, hb2⟩); (obtain ⟨t, x, rfl⟩ := hE.iface (by decide)); (have HE2 := Lib.hid hE); (have HB2 := Lib.hid (below_step HB.out hb2)); (have HX2 := Lib.hid (HX.out.below hb2)); (clear hE hb2 m0 m1); (obtain ⟨m0, m1⟩ := HX2.out.two))
    go_upto_region 3 with (go_at_call 14; (refine (refRight4_is b s false HR.out _).mono ?_); (rintro e w3 ⟨rfl, hb3⟩); (have HE3 := Lib.hid (HE2.out.below hb3)); (have HB3 := Lib.hid (below_step HB2.out hb3)); (have HX3 := Lib.hid (HX2.out.below hb3)); (clear hb3 m0 m1); (obtain ⟨m0, m1⟩ := HX3.out.two))
    go_upto_region 5 with (go_at_call 15; (refine (blockRight_is b s false HR.out _).mono ?_); (rintro e w4 ⟨rfl, hb4⟩); (have HE4 := Lib.hid (HE3.out.below hb4)); (have HB4 := Lib.hid (below_step HB3.out hb4)); (clear hb4 m0 m1))
    go_wp2_with (first
      | (go_at_call 16; (refine (tells04_any (HS.out.below HB4.out) _ 2 _ HE4.out 2 rfl).mono ?_); (rintro e w5 ⟨rfl, rfl⟩))
      | (go_at_call 17; (refine (awake04_any _ A (HS.out.below HB4.out)).mono ?_); (rintro e w6 ⟨rfl, hb6⟩); (have HB6 := Lib.hid (below_step HB4.out hb6)); (clear hb6)))
    go_ret
    exact ⟨rfl, HB6.out⟩
  | true =>
    obtain ⟨h1, h2, h3, h4⟩ := rightG_iff.1 hr
    obtain ⟨nb, rfl⟩ : ∃ n : Nat, b = (n : Int) := ⟨b.toNat, by omega⟩
    obtain ⟨ns, rfl⟩ : ∃ n : Nat, s = (n : Int) := ⟨s.toNat, by omega⟩
    have HR := Lib.hid hr
    clear hr
    go_enter Tryd.func3, Tryd.ntmps3
    go_upto_region 1 with fail
    refine wp_name fun W hW => ?_
    have HX := Lib.hid (show BoxAt W w.heap.size [.int .i64 (nb : Int), .int .i64 (ns : Int)] by rw [hW]; exact (BoxAt.new w [_, _] _))
    have HB := Lib.hid (show Below w.heap.size w W by rw [hW]; go_grown)
    clear hW
    obtain ⟨m0, m1⟩ := HX.out.two
    go_upto_region 2 with (go_at_call 13; (refine (new_ok4 nb ns (by omega) (by omega) _).mono ?_); (rintro e w2 ⟨⟨p, rfl, hd⟩, hb2⟩); (have HD2 := Lib.hid hd); (have HB2 := Lib.hid (below_step HB.out hb2)); (have HX2 := Lib.hid (HX.out.below hb2)); (clear hd hb2 m0 m1); (obtain ⟨m0, m1⟩ := HX2.out.two))
    obtain ⟨D, hD⟩ : ∃ D, Bk.new nb ns = D := ⟨_, rfl⟩
    obtain ⟨F, hF⟩ : ∃ F, (fun k => W.heap.size ≤ k ∧ k < w2.heap.size) = F := ⟨_, rfl⟩
    have hd2 := HD2.out
    rw [hD, hF] at hd2
    have HD := Lib.hid hd2
    have HH := Lib.hid (show Held F w2 by rw [← hF]; exact fun k hk => hk.2)
    have HO := Lib.hid (show Bk.Ok 0 D by rw [← hD]; exact Bk.Ok.new (by omega) (by omega))
    have hbl : D.blocks = nb := by rw [← hD]; rfl
    have hsz : D.size = ns := by rw [← hD]; rfl
    have hof : D.off = false := by rw [← hD]; rfl
    have hwt : D.waiting.length = 0 := by rw [← hD]; rfl
    have HBL := Lib.hid hbl
    have HSZ := Lib.hid hsz
    have HOF := Lib.hid hof
    have HWT := Lib.hid hwt
    clear hd2 hD hF hbl hsz hof hwt HD2
    go_upto_region 3 with (go_at_call 14; (refine (refRight4_is _ _ true HR.out _).mono ?_); (rintro e w3 ⟨rfl, hb3⟩); (have HD3 := Lib.hid (HD.out.below HH.out hb3)); (have HH3 := Lib.hid (show Held F w3 from fun k hk => Nat.lt_of_lt_of_le (HH.out k hk) hb3.size)); (have HB3 := Lib.hid (below_step HB2.out hb3)); (have HX3 := Lib.hid (HX2.out.below hb3)); (clear hb3 m0 m1); (obtain ⟨m0, m1⟩ := HX3.out.two))
    go_upto_region 5 with (go_at_call 15; (refine (blockRight_is _ _ true HR.out _).mono ?_); (rintro e w4 ⟨rfl, hb4⟩); (have HD4 := Lib.hid (HD3.out.below HH3.out hb4)); (have HH4 := Lib.hid (show Held F w4 from fun k hk => Nat.lt_of_lt_of_le (HH3.out k hk) hb4.size)); (have HB4 := Lib.hid (below_step HB3.out hb4)); (have HX4 := Lib.hid (HX3.out.below hb4)); (clear hb4 m0 m1); (obtain ⟨m0, m1⟩ := HX4.out.two))
    have hin : Bk.In D ((nb : Int) - 1) := by have := HBL.out; unfold Bk.In; omega
    obtain ⟨R, hR⟩ : ∃ R, Bk.read D ((nb : Int) - 1).toNat = R := ⟨_, rfl⟩
    have hRl : R.length = ns := by rw [← hR, HO.out.read (by have := HBL.out; omega), HSZ.out]
    have HIN := Lib.hid hin
    have HRD := Lib.hid hR
    have HRL := Lib.hid hRl
    clear hin hR hRl
    go_upto_region 8 with (go_at_call 18; (refine (read_to HD4.out HO.out _ HIN.out HOF.out R HRD.out).mono ?_); (rintro e w5 ⟨⟨g5, rfl, ho5⟩, hb5⟩); (have HD5 := Lib.hid (HD4.out.below HH4.out hb5)); (have HH5 := Lib.hid (show Held F w5 from fun k hk => Nat.lt_of_lt_of_le (HH4.out k hk) hb5.size)); (have HB5 := Lib.hid (below_step HB4.out hb5)); (have HX5 := Lib.hid (HX4.out.below hb5)); (clear ho5 hb5 m0 m1); (obtain ⟨m0, m1⟩ := HX5.out.two))
    have q0 := Later.cell m0
    have q1 := Later.cell m1
    have hrl : (R.length : Int) = (ns : Int) := by have := HRL.out; omega
    have hDX : ∀ x : Later w5, DiskAt F x.world p D := fun x => HD5.out.below HH5.out x.below
    have hgeo : ∀ x : Later w5, Calls Tryd.prog 19 #[.pointer (some ⟨p, 0, none⟩)] x.world fun e w' => e = .returned (.agg #[.int .i64 (nb : Int), .int .i64 (ns : Int)]) ∧ Below x.world.heap.size x.world w' := fun x => by
      have := geo_is (hDX x)
      rw [HBL.out, HSZ.out] at this
      exact this
    have hwai : ∀ x : Later w5, Calls Tryd.prog 20 #[.pointer (some ⟨p, 0, none⟩)] x.world fun e w' => e = .returned (.int .i64 0) ∧ x.world = w' := fun x => by
      have := waiting_is (hDX x)
      rw [HWT.out] at this
      exact this
    have HGEO := Lib.hid hgeo
    have HWAI := Lib.hid hwai
    have HSX := Lib.hid (show ∀ x : Later w5, Sents x.world A from fun x => HS.out.below (below_step HB5.out x.below))
    clear hgeo hwai hDX m0 m1
    refine wp_region_later (by kernel_rfl) (by kernel_rfl) ?_
    repeat (first | go_big_quiet_step (first
      | (go_at_call 19; exact Calls.later_of (HGEO.out _))
      | (go_at_call 20; exact Calls.later_same (HWAI.out _))
      | (go_at_call 17; exact Calls.later_of (awake04_any _ A (HSX.out _)))) | quiet_step (fail))
    refine wpQuiet_nil ?_
    intro xw
    have HXW := Lib.hid (below_step HB5.out xw.below)
    go_wp2_with fail
    go_ret
    exact ⟨rfl, HXW.out⟩
end Go.Proofs.YtflbioiildndoaaDoor
