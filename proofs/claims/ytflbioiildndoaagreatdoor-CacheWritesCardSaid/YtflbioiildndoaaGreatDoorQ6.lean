/- merged: Page, Zeros, PageSeal -/
import Derived.Test.YtflbioiildndoaaGreatDoorQ5
import Derived.Test.YtflbioiildndoaaGreatDoorQ3
import Derived.Test.YtflbioiildndoaaGreatDoorQ4
import Derived.Lib.AppendZerosOnto
import Derived.Test.YtflbioiildndoaaGreatDoorQ2
/- pages: the walks of package page: sized, kind, Check -/
namespace Go.Proofs.YtflbioiildndoaaGreatDoor
open Go.RowKit
set_option linter.unusedVariables false
set_option linter.unusedSimpArgs false

theorem bcellB {w w1 : World} {B : Nat} (hb : Below B w w1) : (∀ b o, b < B → w1.cell? ⟨b, o, none⟩ = w.cell? ⟨b, o, none⟩) ∧ (∀ b o, b < B → w1.frozen? ⟨b, o, none⟩ = w.frozen? ⟨b, o, none⟩) :=
  ⟨fun b o h => hb.cell (p := ⟨b, o, none⟩) h, fun b o h => hb.frozen (p := ⟨b, o, none⟩) h⟩
theorem sized_any (size : Int) (w : World) :
    Calls Tryz.prog 85 #[.int .i64 size] w fun e w' => e = .returned (.bool (Pg.sized size)) ∧ w = w' := by
  have HF := Lib.hid (show Pg.sized size = (decide (256 ≤ size) && decide (size ≤ 1024)) from rfl)
  by_cases h : 256 ≤ size
  all_goals
    go_enter Tryz.func85, Tryz.ntmps85
    go_wp2
    go_ret
    exact ⟨ret_bool (by rw [HF.out]; first | (simp [h]; done) | (simp [h]; omega)), rfl⟩
def kindB (k : Int) : Bool := decide (1 ≤ k) && decide (k ≤ 5)
theorem kind_any (k : Int) (w : World) :
    Calls Tryz.prog 86 #[.int .i64 k] w fun e w' => e = .returned (.bool (kindB k)) ∧ w = w' := by
  by_cases h : 1 ≤ k ∧ k ≤ 5
  · rcases (show k = 1 ∨ k = 2 ∨ k = 3 ∨ k = 4 ∨ k = 5 by omega) with rfl | rfl | rfl | rfl | rfl
    all_goals
      go_enter Tryz.func86, Tryz.ntmps86
      go_wp2
      go_ret
      exact ⟨rfl, rfl⟩
  · have h1 : (k == 1) = false := by simp; omega
    have h2 : (k == 2) = false := by simp; omega
    have h3 : (k == 3) = false := by simp; omega
    have h4 : (k == 4) = false := by simp; omega
    have h5 : (k == 5) = false := by simp; omega
    have HF := Lib.hid (show kindB k = false by unfold kindB; simp; omega)
    clear h
    go_enter Tryz.func86, Tryz.ntmps86
    go_wp2
    go_ret
    exact ⟨ret_bool (by rw [HF.out]), rfl⟩
theorem sized_is (size : Int) (b : Bool) (h : Pg.sized size = b) (w : World) :
    Calls Tryz.prog 85 #[.int .i64 size] w fun e w' => e = .returned (.bool b) ∧ w = w' := by subst h; exact sized_any size w
theorem kind_is (k : Int) (b : Bool) (h : kindB k = b) (w : World) :
    Calls Tryz.prog 86 #[.int .i64 k] w fun e w' => e = .returned (.bool b) ∧ w = w' := by subst h; exact kind_any k w

/-- a page's value: its body lies in w -/
def pageV (p : Pg.Page) (sl : Value) : Value := .agg #[.int .i64 p.kind, .int .i64 p.id, .int .u64 (p.gen : Int), sl]
/-- an error of a code, through faults -/
def ToldErr (A : Nat → Addr) (B : Nat) (k : Nat) (e : Ending) (w' : World) : Prop := ∃ v l, e = .returned v ∧ ErrIs w' A B l k v

set_option maxHeartbeats 1000000 in
theorem check_any (p : Pg.Page) (a : Option Addr) (c : Nat) (size : Int) (w : World) (A : Nat → Addr) {S : Nat → Prop} [Has S 1] [Has S 2] [Has S 5] (hs : SentsOn S w A) (hsz : -9223372036854775808 ≤ size ∧ size ≤ 9223372036854775807) (hn : p.body.length ≤ 9223372036854775807) :
    Calls Tryz.prog 62 #[.agg #[.int .i64 p.kind, .int .i64 p.id, .int .u64 (p.gen : Int), .slice a p.body.length c], .int .i64 size] w fun e w' => ToldErr A w.heap.size (Pg.checkC p size) e w' ∧ Below w.heap.size w w' := by
  have g1 : w.cell? ⟨2, 0, none⟩ = some (.iface 176 (.pointer (some (A 1)))) := hs.cell 1 (by decide) (by decide)
  have g2 : w.cell? ⟨1, 0, none⟩ = some (.iface 176 (.pointer (some (A 2)))) := hs.cell 2 (by decide) (by decide)
  have l1 := World.block_lt_of_cell? w _ g1
  have l2 := World.block_lt_of_cell? w _ g2
  simp only at l1 l2
  have HS := Lib.hid hs
  clear hs
  obtain ⟨kind, id, gen, body⟩ := p
  simp only at *
  generalize hq : body.length = n at *
  by_cases hz : Pg.sized size = true
  · have hb : 256 ≤ size ∧ size ≤ 1024 := by unfold Pg.sized at hz; simpa using hz
    have HZ := Lib.hid hz
    by_cases hbad : kind < 1 ∨ 5 < kind ∨ id < 0 ∨ 255 < id ∨ size - 24 < (n : Int)
    · have HC : Hid (Pg.checkC ⟨kind, id, gen, body⟩ size = 1) := Lib.hid (by unfold Pg.checkC; rw [if_neg (by rw [hz]; decide), if_pos (by simp only [hq]; exact hbad)])
      have hcase : kindB kind = false ∨ (kindB kind = true ∧ id < 0) ∨ (kindB kind = true ∧ 0 ≤ id ∧ 256 ≤ id) ∨ (kindB kind = true ∧ 0 ≤ id ∧ id < 256 ∧ size - 24 < (n : Int)) := by
        cases hk : kindB kind with
        | false => exact .inl rfl
        | true =>
          have : 1 ≤ kind ∧ kind ≤ 5 := by unfold kindB at hk; simpa using hk
          by_cases h1 : id < 0
          · exact .inr (.inl ⟨rfl, h1⟩)
          by_cases h2 : 256 ≤ id
          · exact .inr (.inr (.inl ⟨rfl, by omega, h2⟩))
          · exact .inr (.inr (.inr ⟨rfl, by omega, by omega, by omega⟩))
      clear hbad hz hq
      rcases hcase with hk | ⟨hk, h1⟩ | ⟨hk, h1, h2⟩ | ⟨hk, h1, h2, h3⟩
      all_goals
        have HK := Lib.hid hk
        clear hk
        go_enter Tryz.func62, Tryz.ntmps62
        go_wp2_with (first
          | (go_at_call 85; refine (sized_is size true HZ.out _).mono ?_; rintro e w' ⟨rfl, rfl⟩)
          | (go_at_call 86; refine (kind_is kind _ HK.out _).mono ?_; rintro e w' ⟨rfl, rfl⟩)
          | (go_at_call 41; refine (faultNew_any _ 1 _ _ A _ (sent_err 1 (by decide) (by decide)) (by decide) (Nat.le_refl _)).mono ?_; rintro e w' ⟨⟨v, rfl, hv⟩, hb⟩))
        go_ret
        exact ⟨⟨_, [-1], rfl, by rw [HC.out]; exact hv.mono (by simp)⟩, (show Below w.heap.size w _ by go_grown).trans (hb.mono (by simp))⟩
    · have hk : kindB kind = true := by unfold kindB; simp; omega
      have HC : Hid (Pg.checkC ⟨kind, id, gen, body⟩ size = 0) := Lib.hid (by unfold Pg.checkC; rw [if_neg (by rw [hz]; decide), if_neg (by simp only [hq]; exact hbad)])
      have h1 : 0 ≤ id := by omega
      have h2 : id < 256 := by omega
      have h3 : (n : Int) ≤ size - 24 := by omega
      have HK := Lib.hid hk
      clear hbad hz hq hk
      go_enter Tryz.func62, Tryz.ntmps62
      go_wp2_with (first
        | (go_at_call 85; refine (sized_is size true HZ.out _).mono ?_; rintro e w' ⟨rfl, rfl⟩)
        | (go_at_call 86; refine (kind_is kind _ HK.out _).mono ?_; rintro e w' ⟨rfl, rfl⟩))
      go_ret
      exact ⟨⟨_, [], rfl, by rw [HC.out]; exact ErrIs.nil _ _ _⟩, by go_grown⟩
  · have hz0 : Pg.sized size = false := by simpa using hz
    have HZ := Lib.hid hz0
    have HC : Hid (Pg.checkC ⟨kind, id, gen, body⟩ size = 2) := Lib.hid (by unfold Pg.checkC; rw [if_pos hz0])
    clear hz hz0 hq
    go_enter Tryz.func62, Tryz.ntmps62
    go_wp2_with (first
      | (go_at_call 85; refine (sized_is size false HZ.out _).mono ?_; rintro e w' ⟨rfl, rfl⟩)
      | (go_at_call 41; refine (faultNew_any _ 2 _ _ A _ (sent_err 2 (by decide) (by decide)) (by decide) (Nat.le_refl _)).mono ?_; rintro e w' ⟨⟨v, rfl, hv⟩, hb⟩))
    go_ret
    exact ⟨⟨_, [-1], rfl, by rw [HC.out]; exact hv.mono (by simp)⟩, (show Below w.heap.size w _ by go_grown).trans (hb.mono (by simp))⟩
end Go.Proofs.YtflbioiildndoaaGreatDoor

/- append of bytes 0 ('append(b, make([]byte, n)...)') onto bytes of the call's own -/
namespace Go.Proofs.YtflbioiildndoaaGreatDoor
open Go.RowKit
set_option linter.unusedSimpArgs false

section
variable {P : Program} (w : World)
theorem zeroCells_one (z : Value) (m : Nat) : (Builtin.zeroCells #[z] m).toList = List.replicate m z := by
  apply List.ext_getElem?
  intro j
  by_cases hj : j < m
  · simp [Builtin.zeroCells, hj, Nat.mod_one]
  · simp [Builtin.zeroCells, hj]
theorem run_append_row_zeros (t tn ty e : TypeId) (i : TypeInfo) (z : Value) (kq kn : IntKind) (ht : P.underlying t = some (.slice e)) (htn : P.underlying tn = some (.int kn)) (hi : P.info? e = some i) (hz : i.zero = some z) (hsz : i.size = 1) (hzc : z.cells = #[z]) (hz1 : z.oneCell' = true)
    (g sLen sCap : Nat) (cur : Array Value) (hg : w.heap[g]? = some (.cells cur e (0, 0))) (k : Nat) (h0 : 0 < k) (h48 : k * i.bytes ≤ 281474976710656) (hk : k ≤ 281474976710656)
    (hroom : sLen + k ≤ sCap) (hfit : sLen + k ≤ cur.size) :
    (Builtin.append_ #[t, tn] ty #[.slice (some ⟨g, 0, none⟩) sLen sCap, .int kq k]).run P w =
      .ok (.slice (some ⟨g, 0, none⟩) (sLen + k) sCap) (w.setRow g (cur.toList.take sLen ++ List.replicate k z ++ cur.toList.drop (sLen + k)).toArray) := by
  have hst := run_storeCells_at P g sLen e (List.replicate k z) 0 cur w hg (by simpa using hfit) (fun u hu => by rw [List.eq_of_mem_replicate hu]; exact hz1)
  simp only [Nat.add_zero, List.length_replicate] at hst
  have hw : IntKind.i64.wrap (k : Int) = k := by rw [IntKind.wrap_i64]; omega
  have h48i : ¬ (281474976710656 < (k : Int) * (i.bytes : Int)) := by
    rw [← Int.natCast_mul]
    omega
  have hneg : ¬ ((k : Int) < 0) := by omega
  have hk0 : ¬ k = 0 := by omega
  have hzl := zeroCells_one z k
  simp [Builtin.append_, run_underlying ht, run_underlying htn, sizeOf, typeInfo, zeroValue, hi, hz, hsz, hzc, asInt, asIntOf, hw, hneg, h48i, hk0, hroom, Addr.add_lit, hzl, hst]
theorem run_append_zero_zeros (t tn ty e : TypeId) (i : TypeInfo) (kq kn : IntKind) (ht : P.underlying t = some (.slice e)) (htn : P.underlying tn = some (.int kn)) (hi : P.info? e = some i)
    (a : Option Addr) (sLen sCap : Nat) (hroom : sLen ≤ sCap) :
    (Builtin.append_ #[t, tn] ty #[.slice a sLen sCap, .int kq ((0 : Nat) : Int)]).run P w = .ok (.slice a sLen sCap) w := by
  have hw : IntKind.i64.wrap 0 = 0 := by rw [IntKind.wrap_i64]; omega
  cases a <;> simp [Builtin.append_, run_underlying ht, run_underlying htn, sizeOf, typeInfo, zeroValue, hi, asInt, asIntOf, hw, hroom, storeCells]
end

theorem Tryz.zeros_own {w : World} {base : Nat} {v : Value} {l : List UInt8} (hown : Own w base v l) (m : Nat) (ty : TypeId) (hb : l.length + m ≤ 140737488355328) (hbase : base ≤ w.heap.size) :
    ∃ v' w', (Builtin.append_ #[53, 3] ty #[v, .int .i64 (m : Int)]).run Tryz.prog w = .ok v' w' ∧ Own w' base v' (l ++ List.replicate m 0) ∧ w.grownBy w' v.ownBlock := by
  obtain ⟨i, hi, hz, hs1, hb1⟩ := info_parts Tryz.infoByte
  rcases Nat.eq_zero_or_pos m with rfl | h0
  · refine ⟨v, w, ?_, by simpa using hown, World.grownBy.refl _ _⟩
    obtain ⟨a, c, rfl, h1, h2⟩ := hown.slice
    exact run_append_zero_zeros w _ _ ty _ i .i64 _ Tryz.underlying53 Tryz.underlying3 hi a _ _ h1
  have hlen : (bytesV (l ++ List.replicate m 0)).length = (l ++ List.replicate m (0 : UInt8)).length * 1 := by simp [bytesV]
  have hbv : bytesV (l ++ List.replicate m 0) = bytesV l ++ List.replicate m (.int .u8 0) := by simp [bytesV]
  have grown : ∀ (old : Nat) (row : Option Nat),
      Own (w.drew.alloc (.cells ((bytesV l).toArray ++ Builtin.zeroCells #[.int .u8 0] m ++ Builtin.zeroCells #[.int .u8 0] (grownCap w (l.length + m) old 5 - (l.length + m))) 5)) base
        (.slice (some ⟨w.heap.size, 0, none⟩) (l.length + m) (grownCap w (l.length + m) old 5)) (l ++ List.replicate m 0) ∧
      w.grownBy (w.drew.alloc (.cells ((bytesV l).toArray ++ Builtin.zeroCells #[.int .u8 0] m ++ Builtin.zeroCells #[.int .u8 0] (grownCap w (l.length + m) old 5 - (l.length + m))) 5)) row := by
    intro old row
    have hge := grownCap_ge w (l.length + m) old 5
    have hcm : grownCap w (l.length + m) old 5 ≤ maxLen := grownCap_le_maxLen w (l.length + m) old _ (by unfold maxLen; omega)
    refine ⟨⟨hlen, .inr ⟨w.heap.size, _, _, by simp, hbase, heap_alloc_new w.drew _, by simpa using hge, hcm, ?_, ?_⟩⟩, ⟨rfl, rfl, rfl, by simp, fun k hk _ => Go.RowKit.Below.heap_alloc w.drew _ k hk⟩⟩
    · simp only [Array.size_append, List.size_toArray, size_zeroCells, bytesV_length]
      simp
      omega
    · rw [hbv]
      simp only [Array.toList_append, zeroCells_one]
      have h2 : (l ++ List.replicate m (0 : UInt8)).length * 1 = (bytesV l ++ List.replicate m (Value.int .u8 0)).length := by simp [bytesV]
      rw [h2]
      exact List.take_left
  rcases hown.2 with ⟨rfl, hl0⟩ | ⟨g, cap, cur, rfl, hbg, hg, hnc, hcm, hcs, htake⟩
  · have hl : l = [] := List.eq_nil_of_length_eq_zero hl0
    subst hl
    have hr := Lib.run_append_grow_zeros (P := Tryz.prog) w 53 3 ty 5 i (.int .u8 0) .i64 _ Tryz.underlying53 Tryz.underlying3 hi hz none 0 0 [] (run_firstCells_none w.drew i.size 0 0 0) m h0 (by omega) (by omega) (by omega) (by rw [hb1]; omega) (growslice_fits (by omega) (by rw [hb1]; omega))
    have hgr := grown 0 (Value.ownBlock (.slice none 0 0))
    simp only [List.length_nil, Nat.zero_add] at hgr
    refine ⟨_, _, by simpa using hr, ?_, ?_⟩
    · simpa [bytesV, Value.cells] using hgr.1
    · simpa [bytesV, Value.cells] using hgr.2
  · by_cases hroom : l.length + m ≤ cap
    · have hr := run_append_row_zeros (P := Tryz.prog) w 53 3 ty 5 i (.int .u8 0) .i64 _ Tryz.underlying53 Tryz.underlying3 hi hz hs1 rfl rfl g l.length cap cur hg m h0 (by rw [hb1]; omega) (by omega) hroom (by omega)
      refine ⟨_, _, hr, ⟨hlen, .inr ⟨g, cap, _, by simp, hbg, setRow_heap w g cur _ _ _ hg, by simpa using hroom, hcm, ?_, ?_⟩⟩, ⟨rfl, rfl, rfl, by simp, fun k hk hne => setRow_other w g k _ (fun e => hne (by simp [Value.ownBlock, e]))⟩⟩
      · simp only [List.size_toArray, List.length_append, List.length_take, List.length_drop, Array.length_toList, List.length_replicate]
        omega
      · rw [hbv]
        rw [Nat.mul_one] at htake
        rw [htake]
        have h2 : (l ++ List.replicate m (0 : UInt8)).length * 1 = (bytesV l ++ List.replicate m (Value.int .u8 0)).length := by simp [bytesV]
        rw [h2]
        exact List.take_left
    · have holds : ∀ j u, (bytesV l)[j]? = some u → w.cell? ((⟨g, 0, none⟩ : Addr).add j) = some u := World.ownsRow.cells hown (g := g) rfl
      have hr := Lib.run_append_grow_zeros (P := Tryz.prog) w 53 3 ty 5 i (.int .u8 0) .i64 _ Tryz.underlying53 Tryz.underlying3 hi hz (some ⟨g, 0, none⟩) l.length cap (bytesV l) (run_firstCells_some w.drew i.size l.length ⟨g, 0, none⟩ l.length cap (bytesV l) (by rw [hs1]; simp [bytesV]) (by simpa using holds)) m h0 (by omega) (by omega) (by omega) (by rw [hb1]; omega) (growslice_fits (by omega) (by rw [hb1]; omega))
      have hgr := grown cap (Value.ownBlock (.slice (some ⟨g, 0, none⟩) l.length cap))
      exact ⟨_, _, hr, hgr.1, hgr.2⟩

theorem wpList_append_zeros {ops : Array Oper} {rest : List Oper} {o : Oper} {a : Act} {Q : Exit → Act → World → Prop} {w : World} (hgd : o.guard = none) (s x : Operand)
    (ho : o.op = .call { callee := .builtin .append, args := #[s, x], argTypes := #[53, 3] }) (base : Nat)
    (v : Value) (l : List UInt8) (hs : a.eval s = v) (hown : Own w base v l) (m : Nat) (M : Int) (hx : a.eval x = .int .i64 M) (hM : M = (m : Int))
    (hb : l.length + m ≤ 140737488355328) (hbase : base ≤ w.heap.size)
    (h : ∀ v' w', Own w' base v' (l ++ List.replicate m 0) → w.grownBy w' v.ownBlock → wpList Tryz.prog ops Q rest (a.put o.dst v') w') : wpList Tryz.prog ops Q (o :: rest) a w := by
  subst hM
  obtain ⟨v', w', hr, h1, h2⟩ := Tryz.zeros_own hown m o.type hb hbase
  exact Lib.wpList_append_run w hgd s x _ _ ho v _ hs hx v' w' hr (h v' w' h1 h2)
end Go.Proofs.YtflbioiildndoaaGreatDoor

/- pages: the walk of page.Seal -/
namespace Go.Proofs.YtflbioiildndoaaGreatDoor
open Go.RowKit
set_option linter.unusedVariables false
set_option linter.unusedSimpArgs false

theorem check_good (p : Pg.Page) (a : Option Addr) (c : Nat) (size : Int) (w : World) (A : Nat → Addr) {S : Nat → Prop} [Has S 1] [Has S 2] [Has S 5] (hs : SentsOn S w A) (h : Pg.checkC p size = 0) :
    Calls Tryz.prog 62 #[.agg #[.int .i64 p.kind, .int .i64 p.id, .int .u64 (p.gen : Int), .slice a p.body.length c], .int .i64 size] w fun e w' => e = .returned .nilIface ∧ Below w.heap.size w w' := by
  obtain ⟨h1, h2, h3, h4⟩ := Pg.check_ok h
  refine (check_any p a c size w A hs (by omega) (by omega)).mono fun e w' ⟨⟨v, l, he, hv⟩, hb⟩ => ⟨?_, hb⟩
  rw [h] at hv
  rw [he, hv.isNil.1]

/-- the first parts of a page's head -/
def pre (kind n id gen : Nat) : Nat → List UInt8
  | 0 => []
  | 1 => Fld.le 1 kind
  | 2 => Fld.le 1 kind ++ Fld.le 1 0
  | 3 => Fld.le 1 kind ++ Fld.le 1 0 ++ Fld.le 2 n
  | 4 => Fld.le 1 kind ++ Fld.le 1 0 ++ Fld.le 2 n ++ Fld.le 4 id
  | 5 => Fld.le 1 kind ++ Fld.le 1 0 ++ Fld.le 2 n ++ Fld.le 4 id ++ Fld.le 8 gen
  | _ => Fld.le 1 kind ++ Fld.le 1 0 ++ Fld.le 2 n ++ Fld.le 4 id ++ Fld.le 8 gen ++ Fld.le 4 0
theorem pre_all (kind n id gen : Nat) : pre kind n id gen 6 = Pg.headL kind n id gen := by simp [pre, Pg.headL]

theorem put_is (v : Value) (l : List UInt8) (n x : Nat) (N X : Int) (w : World) (hN : N = (n : Int)) (hX : X = (x : Int)) (hb : BytesAt w v l) (hx : Fld.right (x : Int) = true) (hn : n < 256 ^ x) (hn64 : n < 18446744073709551616) (hlen : l.length ≤ 140737488351232) :
    Calls Tryz.prog 87 #[v, .int .u64 N, .int .i64 X] w fun e w' => (∃ a c, e = .returned (.tuple #[.slice a (l ++ Fld.le x n).length c, .nilIface]) ∧ Own w' w.heap.size (.slice a (l ++ Fld.le x n).length c) (l ++ Fld.le x n)) ∧ Below w.heap.size w w' := by
  subst hN hX
  exact (put_ok v l n x w hb hx hn hn64 hlen).mono fun e w' ⟨hg, hb⟩ => ⟨hg.seen, hb⟩
theorem pre_length (kind n id gen k : Nat) (h : k ≤ 6) : (pre kind n id gen k).length ≤ 20 := by
  rcases (show k = 0 ∨ k = 1 ∨ k = 2 ∨ k = 3 ∨ k = 4 ∨ k = 5 ∨ k = 6 by omega) with rfl | rfl | rfl | rfl | rfl | rfl | rfl <;> simp [pre, Fld.le_length]
theorem Tryz.parts (a0 a1 b0 b1 c0 c1 d0 d1 e0 e1 f0 f1 : Value) (w : World) :
    (Instr.index 148 (.agg #[a0, a1, b0, b1, c0, c1, d0, d1, e0, e1, f0, f1]) (.int .i64 0)).run Tryz.prog w = .ok (.agg #[a0, a1]) w ∧
    (Instr.index 148 (.agg #[a0, a1, b0, b1, c0, c1, d0, d1, e0, e1, f0, f1]) (.int .i64 1)).run Tryz.prog w = .ok (.agg #[b0, b1]) w ∧
    (Instr.index 148 (.agg #[a0, a1, b0, b1, c0, c1, d0, d1, e0, e1, f0, f1]) (.int .i64 2)).run Tryz.prog w = .ok (.agg #[c0, c1]) w ∧
    (Instr.index 148 (.agg #[a0, a1, b0, b1, c0, c1, d0, d1, e0, e1, f0, f1]) (.int .i64 3)).run Tryz.prog w = .ok (.agg #[d0, d1]) w ∧
    (Instr.index 148 (.agg #[a0, a1, b0, b1, c0, c1, d0, d1, e0, e1, f0, f1]) (.int .i64 4)).run Tryz.prog w = .ok (.agg #[e0, e1]) w ∧
    (Instr.index 148 (.agg #[a0, a1, b0, b1, c0, c1, d0, d1, e0, e1, f0, f1]) (.int .i64 5)).run Tryz.prog w = .ok (.agg #[f0, f1]) w :=
  ⟨by kernel_rfl, by kernel_rfl, by kernel_rfl, by kernel_rfl, by kernel_rfl, by kernel_rfl⟩

/-- one part more -/
def preN (n id gen kind : Nat) : Nat → Nat × Nat
  | 0 => (kind, 1)
  | 1 => (0, 1)
  | 2 => (n, 2)
  | 3 => (id, 4)
  | 4 => (gen, 8)
  | _ => (0, 4)
set_option maxRecDepth 100000 in
set_option maxHeartbeats 2000000 in
theorem seal_ok (p : Pg.Page) (a : Option Addr) (c : Nat) (size : Nat) (w : World) (A : Nat → Addr) {S : Nat → Prop} [Has S 1] [Has S 2] [Has S 5] (hs : SentsOn S w A) (hb : BytesAt w (.slice a p.body.length c) p.body) (h : Pg.checkC p size = 0) (hg : p.gen < 18446744073709551616) :
    Calls Tryz.prog 75 #[.agg #[.int .i64 p.kind, .int .i64 p.id, .int .u64 (p.gen : Int), .slice a p.body.length c], .int .i64 (size : Int)] w fun e w' => GivesBytes w (Pg.sealL p size) e w' ∧ Below w.heap.size w w' := by
  obtain ⟨h1, h2, h3, h4⟩ := Pg.check_ok h
  have HS := Lib.hid hs
  have HB := Lib.hid hb
  have HC := Lib.hid h
  have hc : p.body.length ≤ c ∧ c ≤ maxLen := by
    obtain ⟨a', c', e, q1, q2, _⟩ := hb
    simp only [Value.slice.injEq] at e
    obtain ⟨_, _, rfl⟩ := e
    exact ⟨q1, q2⟩
  clear hs hb h
  obtain ⟨kind, id, gen, body⟩ := p
  simp only at *
  obtain ⟨kn, rfl⟩ : ∃ kn : Nat, kind = kn := ⟨kind.toNat, by omega⟩
  obtain ⟨idn, rfl⟩ : ∃ idn : Nat, id = idn := ⟨id.toNat, by omega⟩
  go_enter Tryz.func75, Tryz.ntmps75
  go_wp2_with (go_at_call 62; refine (check_good ⟨kn, idn, gen, body⟩ a c size _ A (HS.out.below ((Below.refl _ _).alloc (Nat.le_refl _) _)) HC.out).mono ?_; rintro e w1 ⟨rfl, hb1⟩; obtain ⟨bc1, bf1⟩ := bcellB hb1)
  have hs1 := hb1.size
  simp only [World.size_alloc] at hs1
  have hbw : Below (w.heap.size + 1) (w.alloc (.cells #[.int .i64 kn, .int .i64 idn, .int .u64 gen, .slice a body.length c] 72)) w1 := hb1.mono (by simp)
  go_loopw [7, 8, 37] (fun v7 v8 i wr => ∃ k : Nat, k ≤ 6 ∧ i = .int .i64 k ∧ v8 = .nilIface ∧ Own wr (w.heap.size + 1) v7 (pre kn body.length idn gen k) ∧ Below (w.heap.size + 1) (w.alloc (.cells #[.int .i64 kn, .int .i64 idn, .int .u64 gen, .slice a body.length c] 72)) wr) (fun _ _ i _ => 6 - (intOf i).toNat)
  case atStart => exact ⟨0, by omega, rfl, rfl, Own.nil _ _, hbw⟩
  case round =>
    obtain ⟨k, hk, rfl, rfl, ho, hbr⟩ := hrel
    have HO := Lib.hid ho
    have HBR := Lib.hid hbr
    clear ho hbr hbw hb1 bc1 bf1 hs1
    by_cases hk6 : k = 6
    · subst hk6
      have hpre := pre_all kn body.length idn gen
      rw [hpre] at HO
      have bw : Below w.heap.size w wr := (show Below w.heap.size w _ by go_grown).trans (HBR.out.mono (by omega))
      have m3 : wr.cell? ⟨w.heap.size, 3, none⟩ = some (.slice a body.length c) := by rw [(bcellB HBR.out).1 _ _ (by omega)]; go_simp
      have hbody := Lib.hid (HB.out.below bw)
      have hsw := HBR.out.size
      simp only [World.size_alloc] at hsw
      have hhl := Pg.headL_length kn body.length idn gen
      have HBW := Lib.hid bw
      clear hpre bw hk
      go_wp2_with (at_builtin; refine wpList_append_bytes rfl (.tmp 55) (.tmp 57) rfl (w.heap.size + 1) _ _ rfl HO.out _ body rfl hbody.out ?q1 ?q2 ?_)
      case q1 => rw [hhl]; omega
      case q2 => omega
      intro v2 w2 ho2 hg2 _
      have HO2 := Lib.hid ho2
      have HB2 := Lib.hid (HBR.out.grown hg2 (by omega) (fun j hj => (HO.out.lt j hj).1))
      obtain ⟨a2, c2, hv2, hc2, hc2m⟩ := ho2.slice
      rw [show (Pg.headL kn body.length idn gen ++ body).length = 20 + body.length by rw [List.length_append, hhl]] at hv2
      rw [hv2] at HO2 ⊢
      have hs2 := HB2.out.size
      simp only [World.size_alloc] at hs2
      clear ho2 hg2 hv2
      go_wp2_with (at_builtin; refine wpList_append_zeros rfl (.tmp 59) (.tmp 64) rfl (w.heap.size + 1) _ _ rfl HO2.out (size - 24 - body.length) _ rfl ?q1 ?q2 ?q3 ?_)
      case q1 => omega
      case q2 => rw [List.length_append, hhl]; omega
      case q3 => omega
      intro v3 w3 ho3 hg3
      have ho3 : Own w3 (w.heap.size + 1) v3 (Pg.bare ⟨kn, idn, gen, body⟩ size) := by simpa [Pg.bare, Pg.pad] using ho3
      have hbl : (Pg.bare ⟨kn, idn, gen, body⟩ size).length = size - 4 := Pg.bare_length (by simp only; omega)
      have HO3 := Lib.hid ho3
      have HB3 := Lib.hid (HB2.out.grown hg3 (by omega) (fun j hj => (HO2.out.lt j hj).1))
      have HS3 := Lib.hid (show Pg.sealL ⟨kn, idn, gen, body⟩ size = Pg.bare ⟨kn, idn, gen, body⟩ size ++ Fld.le 4 (Crc.sum (Pg.bare ⟨kn, idn, gen, body⟩ size)).toNat from rfl)
      have hs3 := HB3.out.size
      simp only [World.size_alloc] at hs3
      clear ho3 hg3
      generalize Pg.bare ⟨kn, idn, gen, body⟩ size = bl at *
      have hcl := (Crc.sum bl).isLt
      go_wp2_with (go_at_call 88; refine (sum_any _ bl _ HO3.out.bytes).mono ?_; rintro e w4 ⟨rfl, rfl⟩)
      refine (put_is _ bl (Crc.sum bl).toNat 4 _ _ _ rfl rfl HO3.out.bytes (by decide) hcl (by omega) (by omega)).mono ?_
      rintro e w4 ⟨⟨a4, c4, rfl, ho4⟩, hb4⟩
      have HO4 := Lib.hid ho4
      have HB4 := Lib.hid (HB3.out.trans (hb4.mono (by omega)))
      clear ho4 hb4
      simp only []
      go_wp2_with (go_at_call 43; refine (faultWrap_nil _ _).mono ?_; rintro e w5 ⟨rfl, rfl⟩)
      go_ret2
      have hlen4 : (bl ++ Fld.le 4 (Crc.sum bl).toNat).length = size - 4 + (Fld.le 4 (Crc.sum bl).toNat).length := by rw [List.length_append, hbl]
      have ho5 := HO4.out.mono (b2 := w.heap.size) (by omega)
      rw [hlen4, ← HS3.out] at ho5
      exact ⟨⟨_, rfl, ho5⟩, (show Below w.heap.size w _ by go_grown).trans (HB4.out.mono (by omega))⟩
    · rcases (show k = 0 ∨ k = 1 ∨ k = 2 ∨ k = 3 ∨ k = 4 ∨ k = 5 by omega) with rfl | rfl | rfl | rfl | rfl | rfl
      · have ix := fun wq => (Tryz.parts (.int .u64 kn) (.int .u64 1) (.int .u64 0) (.int .u64 1) (.int .u64 body.length) (.int .u64 2) (.int .u64 idn) (.int .u64 4) (.int .u64 gen) (.int .u64 8) (.int .u64 0) (.int .u64 4) wq).1
        have hbb := (HO.out.alloc (.cells #[.int .u64 (kn : Nat), .int .u64 1] 147)).bytes
        have hn1 : kn < 256 ^ 1 := show kn < 256 by omega
        have hn2 : (kn : Nat) < 18446744073709551616 := by omega
        have hn3 : (pre kn body.length idn gen 0).length ≤ 140737488351232 := by have := pre_length kn body.length idn gen 0 (by omega); omega
        have HBB := Lib.hid hbb
        clear hbb
        go_wp2_with (go_at_call 87; refine (put_is _ (pre kn body.length idn gen 0) (kn : Nat) 1 _ _ _ rfl rfl HBB.out (by decide) hn1 hn2 hn3).mono ?_; rintro e w2 ⟨⟨a2, c2, rfl, ho2⟩, hb2⟩)
        have HO2 := Lib.hid (ho2.mono (base := _) (b2 := w.heap.size + 1) (by have := HBR.out.size; simp at this ⊢; omega))
        have HB2 := Lib.hid ((HBR.out.alloc (by have := HBR.out.size; simp at this ⊢; omega) (.cells #[.int .u64 (kn : Nat), .int .u64 1] 147)).trans (hb2.mono (by have := HBR.out.size; simp at this ⊢; omega)))
        clear ho2 hb2
        go_roundw
        case rel => exact ⟨1, by omega, rfl, rfl, HO2.out, HB2.out⟩
        case measure => simp [intOf]
      · have ix := fun wq => (Tryz.parts (.int .u64 kn) (.int .u64 1) (.int .u64 0) (.int .u64 1) (.int .u64 body.length) (.int .u64 2) (.int .u64 idn) (.int .u64 4) (.int .u64 gen) (.int .u64 8) (.int .u64 0) (.int .u64 4) wq).2.1
        have hbb := (HO.out.alloc (.cells #[.int .u64 (0 : Nat), .int .u64 1] 147)).bytes
        have hn1 : 0 < 256 ^ 1 := show 0 < 256 by omega
        have hn2 : (0 : Nat) < 18446744073709551616 := by omega
        have hn3 : (pre kn body.length idn gen 1).length ≤ 140737488351232 := by have := pre_length kn body.length idn gen 1 (by omega); omega
        have HBB := Lib.hid hbb
        clear hbb
        go_wp2_with (go_at_call 87; refine (put_is _ (pre kn body.length idn gen 1) (0 : Nat) 1 _ _ _ rfl rfl HBB.out (by decide) hn1 hn2 hn3).mono ?_; rintro e w2 ⟨⟨a2, c2, rfl, ho2⟩, hb2⟩)
        have HO2 := Lib.hid (ho2.mono (base := _) (b2 := w.heap.size + 1) (by have := HBR.out.size; simp at this ⊢; omega))
        have HB2 := Lib.hid ((HBR.out.alloc (by have := HBR.out.size; simp at this ⊢; omega) (.cells #[.int .u64 (0 : Nat), .int .u64 1] 147)).trans (hb2.mono (by have := HBR.out.size; simp at this ⊢; omega)))
        clear ho2 hb2
        go_roundw
        case rel => exact ⟨2, by omega, rfl, rfl, HO2.out, HB2.out⟩
        case measure => simp [intOf]
      · have ix := fun wq => (Tryz.parts (.int .u64 kn) (.int .u64 1) (.int .u64 0) (.int .u64 1) (.int .u64 body.length) (.int .u64 2) (.int .u64 idn) (.int .u64 4) (.int .u64 gen) (.int .u64 8) (.int .u64 0) (.int .u64 4) wq).2.2.1
        have hbb := (HO.out.alloc (.cells #[.int .u64 (body.length : Nat), .int .u64 2] 147)).bytes
        have hn1 : body.length < 256 ^ 2 := show body.length < 65536 by omega
        have hn2 : (body.length : Nat) < 18446744073709551616 := by omega
        have hn3 : (pre kn body.length idn gen 2).length ≤ 140737488351232 := by have := pre_length kn body.length idn gen 2 (by omega); omega
        have HBB := Lib.hid hbb
        clear hbb
        go_wp2_with (go_at_call 87; refine (put_is _ (pre kn body.length idn gen 2) (body.length : Nat) 2 _ _ _ rfl rfl HBB.out (by decide) hn1 hn2 hn3).mono ?_; rintro e w2 ⟨⟨a2, c2, rfl, ho2⟩, hb2⟩)
        have HO2 := Lib.hid (ho2.mono (base := _) (b2 := w.heap.size + 1) (by have := HBR.out.size; simp at this ⊢; omega))
        have HB2 := Lib.hid ((HBR.out.alloc (by have := HBR.out.size; simp at this ⊢; omega) (.cells #[.int .u64 (body.length : Nat), .int .u64 2] 147)).trans (hb2.mono (by have := HBR.out.size; simp at this ⊢; omega)))
        clear ho2 hb2
        go_roundw
        case rel => exact ⟨3, by omega, rfl, rfl, HO2.out, HB2.out⟩
        case measure => simp [intOf]
      · have ix := fun wq => (Tryz.parts (.int .u64 kn) (.int .u64 1) (.int .u64 0) (.int .u64 1) (.int .u64 body.length) (.int .u64 2) (.int .u64 idn) (.int .u64 4) (.int .u64 gen) (.int .u64 8) (.int .u64 0) (.int .u64 4) wq).2.2.2.1
        have hbb := (HO.out.alloc (.cells #[.int .u64 (idn : Nat), .int .u64 4] 147)).bytes
        have hn1 : idn < 256 ^ 4 := show idn < 4294967296 by omega
        have hn2 : (idn : Nat) < 18446744073709551616 := by omega
        have hn3 : (pre kn body.length idn gen 3).length ≤ 140737488351232 := by have := pre_length kn body.length idn gen 3 (by omega); omega
        have HBB := Lib.hid hbb
        clear hbb
        go_wp2_with (go_at_call 87; refine (put_is _ (pre kn body.length idn gen 3) (idn : Nat) 4 _ _ _ rfl rfl HBB.out (by decide) hn1 hn2 hn3).mono ?_; rintro e w2 ⟨⟨a2, c2, rfl, ho2⟩, hb2⟩)
        have HO2 := Lib.hid (ho2.mono (base := _) (b2 := w.heap.size + 1) (by have := HBR.out.size; simp at this ⊢; omega))
        have HB2 := Lib.hid ((HBR.out.alloc (by have := HBR.out.size; simp at this ⊢; omega) (.cells #[.int .u64 (idn : Nat), .int .u64 4] 147)).trans (hb2.mono (by have := HBR.out.size; simp at this ⊢; omega)))
        clear ho2 hb2
        go_roundw
        case rel => exact ⟨4, by omega, rfl, rfl, HO2.out, HB2.out⟩
        case measure => simp [intOf]
      · have ix := fun wq => (Tryz.parts (.int .u64 kn) (.int .u64 1) (.int .u64 0) (.int .u64 1) (.int .u64 body.length) (.int .u64 2) (.int .u64 idn) (.int .u64 4) (.int .u64 gen) (.int .u64 8) (.int .u64 0) (.int .u64 4) wq).2.2.2.2.1
        have hbb := (HO.out.alloc (.cells #[.int .u64 (gen : Nat), .int .u64 8] 147)).bytes
        have hn1 : gen < 256 ^ 8 := show gen < 18446744073709551616 by omega
        have hn2 : (gen : Nat) < 18446744073709551616 := by omega
        have hn3 : (pre kn body.length idn gen 4).length ≤ 140737488351232 := by have := pre_length kn body.length idn gen 4 (by omega); omega
        have HBB := Lib.hid hbb
        clear hbb
        go_wp2_with (go_at_call 87; refine (put_is _ (pre kn body.length idn gen 4) (gen : Nat) 8 _ _ _ rfl rfl HBB.out (by decide) hn1 hn2 hn3).mono ?_; rintro e w2 ⟨⟨a2, c2, rfl, ho2⟩, hb2⟩)
        have HO2 := Lib.hid (ho2.mono (base := _) (b2 := w.heap.size + 1) (by have := HBR.out.size; simp at this ⊢; omega))
        have HB2 := Lib.hid ((HBR.out.alloc (by have := HBR.out.size; simp at this ⊢; omega) (.cells #[.int .u64 (gen : Nat), .int .u64 8] 147)).trans (hb2.mono (by have := HBR.out.size; simp at this ⊢; omega)))
        clear ho2 hb2
        go_roundw
        case rel => exact ⟨5, by omega, rfl, rfl, HO2.out, HB2.out⟩
        case measure => simp [intOf]
      · have ix := fun wq => (Tryz.parts (.int .u64 kn) (.int .u64 1) (.int .u64 0) (.int .u64 1) (.int .u64 body.length) (.int .u64 2) (.int .u64 idn) (.int .u64 4) (.int .u64 gen) (.int .u64 8) (.int .u64 0) (.int .u64 4) wq).2.2.2.2.2
        have hbb := (HO.out.alloc (.cells #[.int .u64 (0 : Nat), .int .u64 4] 147)).bytes
        have hn1 : 0 < 256 ^ 4 := show 0 < 4294967296 by omega
        have hn2 : (0 : Nat) < 18446744073709551616 := by omega
        have hn3 : (pre kn body.length idn gen 5).length ≤ 140737488351232 := by have := pre_length kn body.length idn gen 5 (by omega); omega
        have HBB := Lib.hid hbb
        clear hbb
        go_wp2_with (go_at_call 87; refine (put_is _ (pre kn body.length idn gen 5) (0 : Nat) 4 _ _ _ rfl rfl HBB.out (by decide) hn1 hn2 hn3).mono ?_; rintro e w2 ⟨⟨a2, c2, rfl, ho2⟩, hb2⟩)
        have HO2 := Lib.hid (ho2.mono (base := _) (b2 := w.heap.size + 1) (by have := HBR.out.size; simp at this ⊢; omega))
        have HB2 := Lib.hid ((HBR.out.alloc (by have := HBR.out.size; simp at this ⊢; omega) (.cells #[.int .u64 (0 : Nat), .int .u64 4] 147)).trans (hb2.mono (by have := HBR.out.size; simp at this ⊢; omega)))
        clear ho2 hb2
        go_roundw
        case rel => exact ⟨6, by omega, rfl, rfl, HO2.out, HB2.out⟩
        case measure => simp [intOf]

theorem check_bad (p : Pg.Page) (a : Option Addr) (c : Nat) (size : Int) (w : World) (A : Nat → Addr) {S : Nat → Prop} [Has S 1] [Has S 2] [Has S 5] (hs : SentsOn S w A) (hsz : -9223372036854775808 ≤ size ∧ size ≤ 9223372036854775807) (hn : p.body.length ≤ 9223372036854775807) (h : Pg.checkC p size ≠ 0) :
    Calls Tryz.prog 62 #[.agg #[.int .i64 p.kind, .int .i64 p.id, .int .u64 (p.gen : Int), .slice a p.body.length c], .int .i64 size] w fun e w' => (∃ t x l, e = .returned (.iface t x) ∧ ErrIs w' A w.heap.size l (Pg.checkC p size) (.iface t x)) ∧ Below w.heap.size w w' :=
  (check_any p a c size w A hs hsz hn).mono fun e w' ⟨⟨v, l, he, hv⟩, hb⟩ => by
    obtain ⟨t, x, rfl⟩ := hv.iface h
    exact ⟨⟨t, x, l, he, hv⟩, hb⟩
set_option maxHeartbeats 1000000 in
theorem seal_bad (p : Pg.Page) (a : Option Addr) (c : Nat) (size : Int) (w : World) (A : Nat → Addr) {S : Nat → Prop} [Has S 1] [Has S 2] [Has S 5] (hs : SentsOn S w A) (hsz : -9223372036854775808 ≤ size ∧ size ≤ 9223372036854775807) (hn : p.body.length ≤ 9223372036854775807) (h : Pg.checkC p size ≠ 0) :
    Calls Tryz.prog 75 #[.agg #[.int .i64 p.kind, .int .i64 p.id, .int .u64 (p.gen : Int), .slice a p.body.length c], .int .i64 size] w fun e w' => (∃ t x l, e = .returned (.tuple #[.slice none 0 0, .iface t x]) ∧ ErrIs w' A w.heap.size l (Pg.checkC p size) (.iface t x)) ∧ Below w.heap.size w w' := by
  have HS := Lib.hid hs
  have HC := Lib.hid h
  have HN := Lib.hid hn
  clear hs h hn
  obtain ⟨kind, id, gen, body⟩ := p
  simp only at *
  go_enter Tryz.func75, Tryz.ntmps75
  go_wp2_with (first
    | (go_at_call 62; refine (check_bad ⟨kind, id, gen, body⟩ a c size _ A (HS.out.below ((Below.refl _ _).alloc (Nat.le_refl _) _)) hsz HN.out HC.out).mono ?_; rintro e w1 ⟨⟨t, x, l, rfl, hE⟩, hb1⟩)
    | (go_at_call 43; refine (faultWrap_any _ l _ _ w1 A _ hE HC.out hb1.size).mono ?_; rintro e w2 ⟨⟨v2, rfl, hE2⟩, hb2⟩))
  go_ret2
  obtain ⟨t2, x2, rfl⟩ := hE2.iface HC.out
  exact ⟨⟨t2, x2, _, rfl, hE2.mono (by simp)⟩, ((show Below w.heap.size w _ by go_grown).trans (hb1.mono (by simp))).trans (hb2.mono (by have := hb1.size; simp at this; omega))⟩

/-- what Seal tells -/
def sealS (p : Pg.Page) (size : Int) : List UInt8 × Nat := if Pg.checkC p size = 0 then (Pg.sealL p size.toNat, 0) else ([], Pg.checkC p size)
theorem seal_any (p : Pg.Page) (a : Option Addr) (c : Nat) (size : Int) (w : World) (A : Nat → Addr) {S : Nat → Prop} [Has S 1] [Has S 2] [Has S 5] (hs : SentsOn S w A) (hb : BytesAt w (.slice a p.body.length c) p.body) (hsz : -9223372036854775808 ≤ size ∧ size ≤ 9223372036854775807) (hg : p.gen < 18446744073709551616) :
    Calls Tryz.prog 75 #[.agg #[.int .i64 p.kind, .int .i64 p.id, .int .u64 (p.gen : Int), .slice a p.body.length c], .int .i64 size] w fun e w' => BytesErr w A (sealS p size).1 (sealS p size).2 e w' ∧ Below w.heap.size w w' := by
  unfold sealS
  split
  · rename_i h
    obtain ⟨h1, _⟩ := Pg.check_ok h
    obtain ⟨m, rfl⟩ : ∃ m : Nat, size = m := ⟨size.toNat, by omega⟩
    refine (seal_ok p a c m w A hs hb h hg).mono fun e w' ⟨hgv, hb⟩ => ⟨?_, hb⟩
    obtain ⟨a', c', rfl, ho⟩ := hgv.seen
    exact ⟨a', c', _, [], rfl, ho, ErrIs.nil _ _ _⟩
  · rename_i h
    have hn : p.body.length ≤ 9223372036854775807 := by
      obtain ⟨a', c', e, q1, q2, _⟩ := hb
      unfold maxLen at q2
      omega
    refine (seal_bad p a c size w A hs hsz hn h).mono fun e w' ⟨⟨t, x, l, he, hE⟩, hb⟩ => ⟨⟨none, 0, _, l, he, nil_own w w', hE⟩, hb⟩
end Go.Proofs.YtflbioiildndoaaGreatDoor
