/- the walks of Commit and Rollback of a space -/
import Derived.Test.YtlkpdehajkffaaaDoorSpace
namespace Go.Proofs.YtlkpdehajkffaaaDoor
open Go.RowKit

/-- what was one thing is another one -/
def tr (a b x : Int) : Int := if x = a then b else x
def turnTo (a b : Int) (l : List Int) (k : Nat) : List Int := (l.take k).map (tr a b) ++ l.drop k
theorem turnTo_zero (a b : Int) (l : List Int) : turnTo a b l 0 = l := by simp [turnTo]
theorem turnTo_all (a b : Int) (l : List Int) : turnTo a b l l.length = l.map (tr a b) := by simp [turnTo]
theorem turnTo_length (a b : Int) (l : List Int) (k : Nat) : (turnTo a b l k).length = l.length := by simp [turnTo]; omega
theorem turnTo_at {a b : Int} {l : List Int} {k : Nat} {x : Int} (h : l[k]? = some x) : (turnTo a b l k)[k]? = some x := by
  have hk : k < l.length := (List.getElem?_eq_some_iff.1 h).1
  unfold turnTo
  rw [List.getElem?_append_right (by simp; omega), List.getElem?_drop]
  simp only [List.length_map, List.length_take]
  rw [show k + (k - min k l.length) = k by omega, h]
theorem turnTo_set {a b : Int} {l : List Int} {k : Nat} {x : Int} (h : l[k]? = some x) : (turnTo a b l k).set k (tr a b x) = turnTo a b l (k + 1) := by
  have hk : k < l.length := (List.getElem?_eq_some_iff.1 h).1
  unfold turnTo
  rw [List.set_append_right _ _ (by simp; omega), List.take_add_one, h]
  simp only [List.length_map, List.length_take]
  rw [show k - min k l.length = 0 by omega, List.drop_eq_getElem_cons hk, List.set_cons_zero]
  simp
theorem turnTo_succ {a b : Int} {l : List Int} {k : Nat} {x : Int} (h : l[k]? = some x) (hx : x ≠ a) : turnTo a b l (k + 1) = turnTo a b l k := by
  have := turnTo_set (a := a) (b := b) h
  rw [← this]
  have h2 := turnTo_at (a := a) (b := b) h
  unfold tr
  rw [if_neg hx]
  apply List.ext_getElem?
  intro i
  rw [List.getElem?_set]
  split
  · rename_i e
    subst e
    have hlt := (List.getElem?_eq_some_iff.1 h2).1
    rw [if_pos hlt, h2]
  · rfl

def Turned (w : World) (B p g : Nat) (l : List Int) (e : Ending) (w' : World) : Prop := (∃ v, e = .returned v) ∧ SpaceAt w' B p g l ∧ w.grownBy w' (some g)

set_option maxHeartbeats 1000000 in
theorem turn_any {w : World} {B p g : Nat} {l : List Int} (hs : SpaceAt w B p g l) (a b : Int) :
    Calls Tryd.prog 38 #[.pointer (some ⟨p, 0, none⟩), .int .i64 a, .int .i64 b] w (Turned w B p g (l.map (tr a b))) := by
  have hh := hs.head
  have hlen := hs.len
  have HS := Lib.hid hs
  clear hs
  go_enter Tryd.func38, Tryd.ntmps38
  go_wp2
  go_loopw [15] (fun i wr => ∃ k : Nat, k ≤ l.length ∧ i = .int .i64 k ∧ SpaceAt wr B p g (turnTo a b l k) ∧ w.grownBy wr (some g)) (fun i _ => l.length - (intOf i).toNat)
  case atStart => exact ⟨0, by omega, rfl, by rw [turnTo_zero]; exact HS.out, World.grownBy.refl _ _⟩
  case round =>
    obtain ⟨k, hk, rfl, hsr, hgr⟩ := hrel
    have HSR := Lib.hid hsr
    have HG := Lib.hid hgr
    have hhr := hsr.head
    rw [turnTo_length] at hhr
    clear hgr hh
    by_cases hlt : k < l.length
    · obtain ⟨x, hx⟩ := getElem?_some_of_lt hlt
      have hc := hsr.cell (turnTo_at hx)
      have hfr := hsr.free k
      have HX := Lib.hid hx
      clear hsr hx
      by_cases hxa : x = a
      · have HT : Hid (turnTo a b l (k + 1) = (turnTo a b l k).set k b) := Lib.hid (by rw [← turnTo_set HX.out]; unfold tr; rw [if_pos hxa])
        have e1 : (x == a) = true := by simp [hxa]
        clear hxa
        go_wp2
        go_roundw
        case rel => exact ⟨k + 1, by omega, by go_num, by rw [HT.out]; exact HSR.out.set _ _, grownBy_set HG.out _ _⟩
        case measure => simp [intOf]; omega
      · have HT : Hid (turnTo a b l (k + 1) = turnTo a b l k) := Lib.hid (turnTo_succ HX.out hxa)
        have e1 : (x == a) = false := by simp [hxa]
        clear hxa
        go_wp2
        go_roundw
        case rel => exact ⟨k + 1, by omega, by go_num, by rw [HT.out]; exact HSR.out, HG.out⟩
        case measure => simp [intOf]; omega
    · have hk2 : k = l.length := by omega
      subst hk2
      clear hsr
      go_wp2
      go_returns
      exact ⟨⟨_, rfl⟩, by rw [← turnTo_all]; exact HSR.out, HG.out⟩
theorem turn_nil (w : World) (a b : Int) :
    Calls Tryd.prog 38 #[.pointer none, .int .i64 a, .int .i64 b] w fun e w' => (∃ v, e = .returned v) ∧ w = w' := by
  go_enter Tryd.func38, Tryd.ntmps38
  go_wp2
  go_returns
  exact ⟨⟨_, rfl⟩, rfl⟩

/-- what Commit and Rollback leave -/
def commitL (l : List Int) : List Int := (l.map (tr 2 1)).map (tr 3 0)
def rollL (l : List Int) : List Int := (l.map (tr 2 0)).map (tr 3 1)
theorem commit_any {w : World} {B p g : Nat} {l : List Int} (hs : SpaceAt w B p g l) :
    Calls Tryd.prog 22 #[.pointer (some ⟨p, 0, none⟩)] w (Turned w B p g (commitL l)) := by
  have HS := Lib.hid hs
  clear hs
  go_enter Tryd.func22, Tryd.ntmps22
  go_wp2_with (go_at_call 38; refine (turn_any HS.out _ _).mono ?_; rintro e w1 ⟨⟨v, rfl⟩, h1, k1⟩)
  have H1 := Lib.hid h1
  have K1 := Lib.hid k1
  clear h1 k1
  go_wp2_with (go_at_call 38; refine (turn_any H1.out _ _).mono ?_; rintro e w2 ⟨⟨v2, rfl⟩, h2, k2⟩)
  go_returns
  exact ⟨⟨_, rfl⟩, h2, grown_trans K1.out k2⟩
theorem roll_any {w : World} {B p g : Nat} {l : List Int} (hs : SpaceAt w B p g l) :
    Calls Tryd.prog 24 #[.pointer (some ⟨p, 0, none⟩)] w (Turned w B p g (rollL l)) := by
  have HS := Lib.hid hs
  clear hs
  go_enter Tryd.func24, Tryd.ntmps24
  go_wp2_with (go_at_call 38; refine (turn_any HS.out _ _).mono ?_; rintro e w1 ⟨⟨v, rfl⟩, h1, k1⟩)
  have H1 := Lib.hid h1
  have K1 := Lib.hid k1
  clear h1 k1
  go_wp2_with (go_at_call 38; refine (turn_any H1.out _ _).mono ?_; rintro e w2 ⟨⟨v2, rfl⟩, h2, k2⟩)
  go_returns
  exact ⟨⟨_, rfl⟩, h2, grown_trans K1.out k2⟩
theorem commit_nil (w : World) :
    Calls Tryd.prog 22 #[.pointer none] w fun e w' => (∃ v, e = .returned v) ∧ w = w' := by
  go_enter Tryd.func22, Tryd.ntmps22
  go_wp2_with (go_at_call 38; refine (turn_nil _ _ _).mono ?_; rintro e w1 ⟨⟨v, rfl⟩, rfl⟩)
  go_returns
  exact ⟨⟨_, rfl⟩, rfl⟩
theorem roll_nil (w : World) :
    Calls Tryd.prog 24 #[.pointer none] w fun e w' => (∃ v, e = .returned v) ∧ w = w' := by
  go_enter Tryd.func24, Tryd.ntmps24
  go_wp2_with (go_at_call 38; refine (turn_nil _ _ _).mono ?_; rintro e w1 ⟨⟨v, rfl⟩, rfl⟩)
  go_returns
  exact ⟨⟨_, rfl⟩, rfl⟩
end Go.Proofs.YtlkpdehajkffaaaDoor
