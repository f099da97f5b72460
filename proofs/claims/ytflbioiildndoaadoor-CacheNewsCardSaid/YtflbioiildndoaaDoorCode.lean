/- the walks of errors.is, errors.Is, fault.Code -/
import Derived.Test.YtflbioiildndoaaDoorSent
namespace Go.Proofs.YtflbioiildndoaaDoor
open Go.RowKit Go.Extern.Stop Go.Stop Go.Extern

theorem Tryd.isTypeOf (v : Value) (w : World) : (Extern.ReflectliteType.typeOf #[.iface 171 v]).run Tryd.prog w = .ok (.iface 155 (.agg #[.pointer (some ⟨9, 171, none⟩)])) w := by kernel_rfl
def isCmp : Array Value → Sem Value := Extern.ReflectliteType.method fun t => do Go.Extern.Rtype.noPackHeld "Comparable" t; pure (.bool (← typeInfo t).comparable)
theorem Tryd.isComparable (w : World) : (isCmp #[.agg #[.pointer (some ⟨9, 171, none⟩)]]).run Tryd.prog w = .ok (.bool true) w := by kernel_rfl
theorem Tryd.isComp : (Tryd.prog.info? 171).map (·.comparable) = some true := by kernel_rfl
theorem Tryd.isSize : (Tryd.prog.info? 195).map (·.size) = some 1 := by kernel_rfl
theorem Tryd.noIsE (v : Value) (xT : TypeId) (w : World) : (Instr.typeAssert (.iface 171 v) xT 157 true).run Tryd.prog w = .ok (.tuple #[.nilIface, .bool false]) w := run_typeAssert_lacksB Tryd.underlying157 (by kernel_rfl) (by kernel_rfl) v xT w
theorem Tryd.noUnwrapE (v : Value) (xT : TypeId) (w : World) : (Instr.typeAssert (.iface 171 v) xT 160 true).run Tryd.prog w = .ok (.tuple #[.nilIface, .bool false]) w := run_typeAssert_lacksB Tryd.underlying160 (by kernel_rfl) (by kernel_rfl) v xT w
theorem Tryd.noUnwrapsE (v : Value) (xT : TypeId) (w : World) : (Instr.typeAssert (.iface 171 v) xT 161 true).run Tryd.prog w = .ok (.tuple #[.nilIface, .bool false]) w := run_typeAssert_lacksB Tryd.underlying161 (by kernel_rfl) (by kernel_rfl) v xT w
theorem Tryd.noIsF (v : Value) (xT : TypeId) (w : World) : (Instr.typeAssert (.iface 124 v) xT 157 true).run Tryd.prog w = .ok (.tuple #[.nilIface, .bool false]) w := run_typeAssert_lacksB Tryd.underlying157 (by kernel_rfl) (by kernel_rfl) v xT w
theorem Tryd.hasUnwrapF (v : Value) (xT : TypeId) (w : World) : (Instr.typeAssert (.iface 124 v) xT 160 true).run Tryd.prog w = .ok (.tuple #[.iface 124 v, .bool true]) w := run_typeAssert_hasB Tryd.underlying160 (by kernel_rfl) v xT w

theorem is_any {w : World} {A : Nat → Addr} {B : Nat} (hs : Sents w A) (l : List Int) (k : Nat) (v : Value) (hc : Chain w A B l k v) (j : Nat) (hj1 : 1 ≤ j) (hj2 : j ≤ 9) :
    Calls Tryd.prog 91 #[v, .iface 171 (.pointer (some (A j))), .bool true] w fun e w' => e = .returned (.bool (k == j)) ∧ w = w' := by
  obtain ⟨i, hi, hcmp⟩ := Option.map_eq_some_iff.1 Tryd.isComp
  obtain ⟨i2, hi2, hjs⟩ := Option.map_eq_some_iff.1 Tryd.isSize
  obtain ⟨cj, tj, hrj⟩ := hs.row j hj1 hj2
  have nE := Tryd.noIsE
  have uE := Tryd.noUnwrapE
  have vE := Tryd.noUnwrapsE
  have nF := Tryd.noIsF
  have uF := Tryd.hasUnwrapF
  have HS := Lib.hid hs
  have HR := Lib.hid hrj
  have HC := Lib.hid hc
  clear hs hrj hc
  go_enter Tryd.func91, Tryd.ntmps91
  go_wp2
  go_loopg [0] l.length (fun n E' wl => wl = w ∧ ∃ l', l'.length = n ∧ Chain w A B l' k E')
  case atStart => exact ⟨rfl, l, rfl, HC.out⟩
  case round =>
    obtain ⟨rfl, l', hl', hc'⟩ := hrel
    have hk := hc'.le
    cases l' with
    | nil =>
      obtain ⟨_, rfl⟩ := hc'
      by_cases hkj : k = j
      · subst hkj
        have heq := run_eql_iface_ptr_same (P := Tryd.prog) wr (A k) Tryd.underlying26 Tryd.underlying171 hi hcmp hi2
        go_wp2
        go_ret
        exact ⟨by simp, rfl⟩
      · obtain ⟨ck, tk, hrk⟩ := HS.out.row k hk.1 hk.2
        have heq := run_eql_iface_ptr_other (P := Tryd.prog) wr Tryd.underlying26 Tryd.underlying171 hi hcmp hi2 (by rw [hjs]; decide) (fun e => hkj (HS.out.inj k j hk.1 hk.2 hj1 hj2 e)) hrk HR.out
        clear hrk
        have hb : (k == j) = false := by simp [hkj]
        go_wp2
        go_ret
        exact ⟨by rw [hb]; rfl, rfl⟩
    | cons p l' =>
      obtain ⟨b, op, E, rfl, _, hb, hcE⟩ := hc'
      have hty := run_eql_iface_types (P := Tryd.prog) 124 171 (.pointer (some ⟨b, 0, none⟩)) (.pointer (some (A j))) Tryd.underlying26 (by decide) wr
      have hcell : wr.cell? ⟨b, 2, none⟩ = some E := by simp [World.cell?, hb]
      obtain ⟨t, x, rfl⟩ := hcE.iface
      have HE := Lib.hid hcE
      clear hcE hb
      simp only [List.length_cons] at hl'
      have HL := Lib.hid hl'
      clear hl'
      go_wp2
      go_roundg l'.length
      case rel => exact ⟨rfl, l', rfl, HE.out⟩
      case measure => have := HL.out; omega

theorem Is_any {w : World} {A : Nat → Addr} {B : Nat} (hs : Sents w A) (l : List Int) (k : Nat) (v : Value) (hc : Chain w A B l k v) (j : Nat) (hj1 : 1 ≤ j) (hj2 : j ≤ 9) :
    Calls Tryd.prog 77 #[v, .iface 171 (.pointer (some (A j)))] w fun e w' => e = .returned (.bool (k == j)) ∧ w = w' := by
  have h8 := @run_callFunc_extern Tryd.prog 90 _ Extern.ReflectliteType.typeOf Tryd.func90 (by kernel_rfl) (by kernel_rfl) (by kernel_rfl) (by kernel_rfl)
  have h32 := @run_callFunc_extern Tryd.prog 131 _ isCmp Tryd.func131 (by kernel_rfl) (by kernel_rfl) (by kernel_rfl) (by kernel_rfl)
  have tT := Tryd.isTypeOf
  have cT := Tryd.isComparable
  have HC := Lib.hid hc
  obtain ⟨t, x, rfl⟩ := hc.iface
  clear hc
  go_enter Tryd.func77, Tryd.ntmps77
  go_wp2_with (go_at_call 91; refine (is_any hs l k _ HC.out j hj1 hj2).mono ?_; rintro e w' ⟨rfl, rfl⟩)
  go_ret
  exact ⟨rfl, rfl⟩

set_option maxHeartbeats 1000000 in
theorem Code_chain {w : World} {A : Nat → Addr} {B : Nat} (hs : Sents w A) (l : List Int) (k : Nat) (v : Value) (hc : Chain w A B l k v) :
    Calls Tryd.prog 55 #[v] w fun e w' => e = .returned (.int .i64 (k : Int)) ∧ w = w' := by
  have g1 : w.cell? ⟨2, 0, none⟩ = some (.iface 171 (.pointer (some (A 1)))) := hs.cell 1 (by decide) (by decide)
  have g2 : w.cell? ⟨0, 0, none⟩ = some (.iface 171 (.pointer (some (A 2)))) := hs.cell 2 (by decide) (by decide)
  have g3 : w.cell? ⟨4, 0, none⟩ = some (.iface 171 (.pointer (some (A 3)))) := hs.cell 3 (by decide) (by decide)
  have g4 : w.cell? ⟨3, 0, none⟩ = some (.iface 171 (.pointer (some (A 4)))) := hs.cell 4 (by decide) (by decide)
  have g5 : w.cell? ⟨5, 0, none⟩ = some (.iface 171 (.pointer (some (A 5)))) := hs.cell 5 (by decide) (by decide)
  have g6 : w.cell? ⟨6, 0, none⟩ = some (.iface 171 (.pointer (some (A 6)))) := hs.cell 6 (by decide) (by decide)
  have g7 : w.cell? ⟨1, 0, none⟩ = some (.iface 171 (.pointer (some (A 7)))) := hs.cell 7 (by decide) (by decide)
  have g8 : w.cell? ⟨7, 0, none⟩ = some (.iface 171 (.pointer (some (A 8)))) := hs.cell 8 (by decide) (by decide)
  have g9 : w.cell? ⟨8, 0, none⟩ = some (.iface 171 (.pointer (some (A 9)))) := hs.cell 9 (by decide) (by decide)
  have HC := Lib.hid hc
  have HK := Lib.hid hc.le
  obtain ⟨t, x, rfl⟩ := hc.iface
  clear hc
  go_enter Tryd.func55, Tryd.ntmps55
  go_wp2_with (first | (go_at_call 77; (with_reducible refine (Is_any hs l k _ HC.out 1 (by decide) (by decide)).mono ?_); rintro e w' ⟨rfl, rfl⟩) | (go_at_call 77; (with_reducible refine (Is_any hs l k _ HC.out 2 (by decide) (by decide)).mono ?_); rintro e w' ⟨rfl, rfl⟩) | (go_at_call 77; (with_reducible refine (Is_any hs l k _ HC.out 3 (by decide) (by decide)).mono ?_); rintro e w' ⟨rfl, rfl⟩) | (go_at_call 77; (with_reducible refine (Is_any hs l k _ HC.out 4 (by decide) (by decide)).mono ?_); rintro e w' ⟨rfl, rfl⟩) | (go_at_call 77; (with_reducible refine (Is_any hs l k _ HC.out 5 (by decide) (by decide)).mono ?_); rintro e w' ⟨rfl, rfl⟩) | (go_at_call 77; (with_reducible refine (Is_any hs l k _ HC.out 6 (by decide) (by decide)).mono ?_); rintro e w' ⟨rfl, rfl⟩) | (go_at_call 77; (with_reducible refine (Is_any hs l k _ HC.out 7 (by decide) (by decide)).mono ?_); rintro e w' ⟨rfl, rfl⟩) | (go_at_call 77; (with_reducible refine (Is_any hs l k _ HC.out 8 (by decide) (by decide)).mono ?_); rintro e w' ⟨rfl, rfl⟩) | (go_at_call 77; (with_reducible refine (Is_any hs l k _ HC.out 9 (by decide) (by decide)).mono ?_); rintro e w' ⟨rfl, rfl⟩))
  all_goals go_ret
  all_goals refine ⟨?_, rfl⟩
  all_goals have h9 := HK.out
  all_goals simp only [beq_iff_eq, beq_eq_false_iff_ne] at *
  all_goals first | (subst k; rfl) | (exfalso; omega)
theorem Code_any {w : World} {A : Nat → Addr} {B : Nat} (hs : Sents w A) (l : List Int) (k : Nat) (v : Value) (hc : ErrIs w A B l k v) :
    Calls Tryd.prog 55 #[v] w fun e w' => e = .returned (.int .i64 (k : Int)) ∧ w = w' := by
  rcases hc with ⟨rfl, rfl, rfl⟩ | ⟨_, hc⟩
  · go_enter Tryd.func55, Tryd.ntmps55
    go_wp2
    go_ret
    exact ⟨rfl, rfl⟩
  · exact Code_chain hs l k v hc
end Go.Proofs.YtflbioiildndoaaDoor
