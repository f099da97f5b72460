/- merged: Block1, Block2, Block3, Block4, Block5 -/
import Derived.Test.YtflbioiildndoaaGreatDoorBlockD
import Derived.Test.YtflbioiildndoaaGreatDoorQ1
import Derived.Deep.DeepCutAuto
import Derived.Laws.CopyOwn
import Derived.Test.YtflbioiildndoaaGreatDoorQ4
/- block: Right, check, on, cloned, and what only looks -/
namespace Go.Proofs.YtflbioiildndoaaGreatDoor
open Go.RowKit
set_option linter.unusedVariables false
set_option linter.unusedSimpArgs false

theorem BoxAt.eleven {w : World} {r : Nat} {v0 v1 v2 v3 v4 v5 v6 v7 v8 v9 v10 : Value} (h : BoxAt w r [v0, v1, v2, v3, v4, v5, v6, v7, v8, v9, v10]) :
    w.cell? ⟨r, 0, none⟩ = some v0 ∧ w.cell? ⟨r, 1, none⟩ = some v1 ∧ w.cell? ⟨r, 2, none⟩ = some v2 ∧ w.cell? ⟨r, 3, none⟩ = some v3 ∧ w.cell? ⟨r, 4, none⟩ = some v4 ∧ w.cell? ⟨r, 5, none⟩ = some v5 ∧ w.cell? ⟨r, 6, none⟩ = some v6 ∧ w.cell? ⟨r, 7, none⟩ = some v7 ∧ w.cell? ⟨r, 8, none⟩ = some v8 ∧ w.cell? ⟨r, 9, none⟩ = some v9 ∧ w.cell? ⟨r, 10, none⟩ = some v10 :=
  ⟨h.at 0 _ rfl, h.at 1 _ rfl, h.at 2 _ rfl, h.at 3 _ rfl, h.at 4 _ rfl, h.at 5 _ rfl, h.at 6 _ rfl, h.at 7 _ rfl, h.at 8 _ rfl, h.at 9 _ rfl, h.at 10 _ rfl⟩
theorem BoxAt.elevenF {w : World} {r : Nat} {v0 v1 v2 v3 v4 v5 v6 v7 v8 v9 v10 : Value} (h : BoxAt w r [v0, v1, v2, v3, v4, v5, v6, v7, v8, v9, v10]) :
    w.frozen? ⟨r, 0, none⟩ = false ∧ w.frozen? ⟨r, 1, none⟩ = false ∧ w.frozen? ⟨r, 2, none⟩ = false ∧ w.frozen? ⟨r, 3, none⟩ = false ∧ w.frozen? ⟨r, 4, none⟩ = false ∧ w.frozen? ⟨r, 5, none⟩ = false ∧ w.frozen? ⟨r, 6, none⟩ = false ∧ w.frozen? ⟨r, 7, none⟩ = false ∧ w.frozen? ⟨r, 8, none⟩ = false ∧ w.frozen? ⟨r, 9, none⟩ = false ∧ w.frozen? ⟨r, 10, none⟩ = false :=
  ⟨h.free 0 _ rfl, h.free 1 _ rfl, h.free 2 _ rfl, h.free 3 _ rfl, h.free 4 _ rfl, h.free 5 _ rfl, h.free 6 _ rfl, h.free 7 _ rfl, h.free 8 _ rfl, h.free 9 _ rfl, h.free 10 _ rfl⟩
def rightG (b s : Int) : Bool := decide (8 ≤ b) && (decide (b ≤ 256) && (decide (256 ≤ s) && decide (s ≤ 1024)))
theorem rightG_iff {b s : Int} : rightG b s = true ↔ 8 ≤ b ∧ b ≤ 256 ∧ 256 ≤ s ∧ s ≤ 1024 := by unfold rightG; simp
theorem rightG_no {b s : Int} : rightG b s = false ↔ ¬ (8 ≤ b ∧ b ≤ 256 ∧ 256 ≤ s ∧ s ≤ 1024) := by rw [← rightG_iff]; simp
set_option maxRecDepth 100000 in
theorem blockRight_is (b s : Int) (B : Bool) (hB : rightG b s = B) (w : World) :
    Calls Tryz.prog 46 #[.agg #[.int .i64 b, .int .i64 s]] w fun e w' => e = .returned (.bool B) ∧ Below w.heap.size w w' := by
  cases B with
  | true =>
    obtain ⟨h1, h2, h3, h4⟩ := rightG_iff.1 hB
    clear hB
    go_enter Tryz.func46, Tryz.ntmps46
    go_wp2_with fail
    go_ret
    exact ⟨by first | rfl | exact ret_bool (by simp; omega), by go_grown⟩
  | false =>
    have hn := rightG_no.1 hB
    clear hB
    by_cases h1 : 8 ≤ b
    · by_cases h2 : b ≤ 256
      · by_cases h3 : 256 ≤ s
        · have h4 : 1024 < s := by omega
          clear hn
          go_enter Tryz.func46, Tryz.ntmps46
          go_wp2_with fail
          go_ret
          exact ⟨by first | rfl | exact ret_bool (by simp; omega), by go_grown⟩
        · have h4 : s < 256 := by omega
          clear hn h3
          go_enter Tryz.func46, Tryz.ntmps46
          go_wp2_with fail
          go_ret
          exact ⟨by first | rfl | exact ret_bool (by simp; omega), by go_grown⟩
      · have h4 : 256 < b := by omega
        clear hn h2
        go_enter Tryz.func46, Tryz.ntmps46
        go_wp2_with fail
        go_ret
        exact ⟨by first | rfl | exact ret_bool (by simp; omega), by go_grown⟩
    · have h4 : b < 8 := by omega
      clear hn h1
      go_enter Tryz.func46, Tryz.ntmps46
      go_wp2_with fail
      go_ret
      exact ⟨by first | rfl | exact ret_bool (by simp; omega), by go_grown⟩

/-! ### check, on -/
theorem check_nil {S : Nat → Prop} [Has S 1] [Has S 2] [Has S 7] (op : ByteArray) (i : Int) (w : World) (A : Nat → Addr) (hs : SentsOn S w A) :
    Calls Tryz.prog 76 #[.pointer none, .string op, .int .i64 i] w fun e w' => IsFault A w.heap.size [-1] 7 e w' ∧ Below w.heap.size w w' := by
  have g2 : w.cell? ⟨0, 0, none⟩ = some (.iface 176 (.pointer (some (A 7)))) := hs.cell 7 (by decide) (by decide)
  have HE := Lib.hid (sent_err (w := w) (A := A) (B := w.heap.size) 7 (by decide) (by decide))
  clear hs
  go_enter Tryz.func76, Tryz.ntmps76
  go_wp2_with (go_at_call 41; refine (faultNew_any _ 7 _ _ A w.heap.size HE.out (by decide) (Nat.le_refl _)).mono ?_; rintro e w' ⟨⟨v, rfl, hv⟩, hb⟩)
  go_ret
  exact ⟨⟨_, rfl, hv⟩, hb⟩
theorem check_in (p : Nat) (op : ByteArray) (i b : Int) (w : World) (h0 : w.cell? ⟨p, 0, none⟩ = some (.int .i64 b)) (h1 : 0 ≤ i) (h2 : i < b) :
    Calls Tryz.prog 76 #[.pointer (some ⟨p, 0, none⟩), .string op, .int .i64 i] w fun e w' => e = .returned .nilIface ∧ w = w' := by
  go_enter Tryz.func76, Tryz.ntmps76
  go_wp2_with fail
  go_ret
  exact ⟨rfl, rfl⟩
theorem check_out {S : Nat → Prop} [Has S 1] [Has S 2] [Has S 7] (p : Nat) (op : ByteArray) (i b : Int) (w : World) (h0 : w.cell? ⟨p, 0, none⟩ = some (.int .i64 b)) (h1 : i < 0 ∨ b ≤ i) (A : Nat → Addr) (hs : SentsOn S w A) :
    Calls Tryz.prog 76 #[.pointer (some ⟨p, 0, none⟩), .string op, .int .i64 i] w fun e w' => IsFault A w.heap.size [max i (-1)] 2 e w' ∧ Below w.heap.size w w' := by
  have g2 : w.cell? ⟨1, 0, none⟩ = some (.iface 176 (.pointer (some (A 2)))) := hs.cell 2 (by decide) (by decide)
  have HE := Lib.hid (sent_err (w := w) (A := A) (B := w.heap.size) 2 (by decide) (by decide))
  clear hs
  by_cases hi : i < 0
  · clear h1
    go_enter Tryz.func76, Tryz.ntmps76
    go_wp2_with (go_at_call 47; refine (faultAt_any _ _ [] 2 _ _ A w.heap.size HE.out (by decide) (Nat.le_refl _)).mono ?_; rintro e w' ⟨⟨v, rfl, hv⟩, hb⟩)
    go_ret
    exact ⟨⟨_, rfl, hv⟩, hb⟩
  · have h2 : 0 ≤ i := by omega
    have h3 : b ≤ i := by omega
    clear h1 hi
    go_enter Tryz.func76, Tryz.ntmps76
    go_wp2_with (go_at_call 47; refine (faultAt_any _ _ [] 2 _ _ A w.heap.size HE.out (by decide) (Nat.le_refl _)).mono ?_; rintro e w' ⟨⟨v, rfl, hv⟩, hb⟩)
    go_ret
    exact ⟨⟨_, rfl, hv⟩, hb⟩
theorem on_ok (p : Nat) (op : ByteArray) (i b : Int) (w : World) (h0 : w.cell? ⟨p, 0, none⟩ = some (.int .i64 b)) (h1 : 0 ≤ i) (h2 : i < b) (h9 : w.cell? ⟨p, 9, none⟩ = some (.bool false)) :
    Calls Tryz.prog 44 #[.pointer (some ⟨p, 0, none⟩), .string op, .int .i64 i] w fun e w' => e = .returned .nilIface ∧ w = w' := by
  go_enter Tryz.func44, Tryz.ntmps44
  go_wp2_with (go_at_call 76; refine (check_in p _ i b _ h0 h1 h2).mono ?_; rintro e w' ⟨rfl, rfl⟩)
  go_ret
  exact ⟨rfl, rfl⟩
theorem on_off {S : Nat → Prop} [Has S 1] [Has S 2] [Has S 7] (p : Nat) (op : ByteArray) (i b : Int) (w : World) (h0 : w.cell? ⟨p, 0, none⟩ = some (.int .i64 b)) (h1 : 0 ≤ i) (h2 : i < b) (h9 : w.cell? ⟨p, 9, none⟩ = some (.bool true)) (A : Nat → Addr) (hs : SentsOn S w A) :
    Calls Tryz.prog 44 #[.pointer (some ⟨p, 0, none⟩), .string op, .int .i64 i] w fun e w' => IsFault A w.heap.size [max i (-1)] 7 e w' ∧ Below w.heap.size w w' := by
  have g2 : w.cell? ⟨0, 0, none⟩ = some (.iface 176 (.pointer (some (A 7)))) := hs.cell 7 (by decide) (by decide)
  have HE := Lib.hid (sent_err (w := w) (A := A) (B := w.heap.size) 7 (by decide) (by decide))
  clear hs
  go_enter Tryz.func44, Tryz.ntmps44
  go_wp2_with (first
    | (go_at_call 76; refine (check_in p _ i b _ h0 h1 h2).mono ?_; rintro e w' ⟨rfl, rfl⟩)
    | (go_at_call 47; refine (faultAt_any _ _ [] 7 _ _ A w.heap.size HE.out (by decide) (Nat.le_refl _)).mono ?_; rintro e w' ⟨⟨v, rfl, hv⟩, hb⟩))
  go_ret
  exact ⟨⟨_, rfl, hv⟩, hb⟩
theorem on_out {S : Nat → Prop} [Has S 1] [Has S 2] [Has S 7] (p : Nat) (op : ByteArray) (i b : Int) (w : World) (h0 : w.cell? ⟨p, 0, none⟩ = some (.int .i64 b)) (h1 : i < 0 ∨ b ≤ i) (A : Nat → Addr) (hs : SentsOn S w A) :
    Calls Tryz.prog 44 #[.pointer (some ⟨p, 0, none⟩), .string op, .int .i64 i] w fun e w' => IsFault A w.heap.size [max i (-1)] 2 e w' ∧ Below w.heap.size w w' := by
  have HS := Lib.hid hs
  have H1 := Lib.hid h1
  clear hs h1
  go_enter Tryz.func44, Tryz.ntmps44
  go_wp2_with (go_at_call 76; refine (check_out p _ i b _ h0 H1.out A HS.out).mono ?_; rintro e w' ⟨⟨v, rfl, hv⟩, hb⟩; obtain ⟨tv, xv, rfl⟩ := hv.iface (by decide))
  go_ret
  exact ⟨⟨_, rfl, hv⟩, hb⟩
theorem on_nil {S : Nat → Prop} [Has S 1] [Has S 2] [Has S 7] (op : ByteArray) (i : Int) (w : World) (A : Nat → Addr) (hs : SentsOn S w A) :
    Calls Tryz.prog 44 #[.pointer none, .string op, .int .i64 i] w fun e w' => IsFault A w.heap.size [-1] 7 e w' ∧ Below w.heap.size w w' := by
  have HS := Lib.hid hs
  clear hs
  go_enter Tryz.func44, Tryz.ntmps44
  go_wp2_with (go_at_call 76; refine (check_nil _ i _ A HS.out).mono ?_; rintro e w' ⟨⟨v, rfl, hv⟩, hb⟩; obtain ⟨tv, xv, rfl⟩ := hv.iface (by decide))
  go_ret
  exact ⟨⟨_, rfl, hv⟩, hb⟩

/-! ### bytes in new memory -/
theorem setRow_own {w : World} {base g n cap : Nat} {l : List UInt8} (h : Own w base (.slice (some ⟨g, 0, none⟩) n cap) l) (hn : n = l.length) (m : List UInt8) (hm : m.length = l.length) :
    ∃ cur : Array Value, w.heap[g]? = some (.cells cur 5 (0, 0)) ∧ l.length ≤ cur.size ∧ cur.toList.take l.length = bytesV l ∧
      Own (w.setRow g ((bytesV m) ++ cur.toList.drop l.length).toArray) base (.slice (some ⟨g, 0, none⟩) n cap) m := by
  subst hn
  rcases h.2 with ⟨hv, h0⟩ | ⟨g2, cap2, cur, hv, h2, h3, h4, h5, h6, h7⟩
  · simp at hv
  · simp only [Value.slice.injEq, Option.some.injEq, Addr.mk.injEq, and_true, true_and] at hv
    obtain ⟨rfl, rfl⟩ := hv
    have hsz : l.length ≤ cur.size := by simp only [Nat.mul_one] at h6; omega
    refine ⟨cur, h3, hsz, by simpa [bytesV_length] using h7, ?_, .inr ⟨g, cap, _, by rw [hm], h2, setRow_heap w g cur _ _ _ h3, by rw [hm]; exact h4, h5, ?_, ?_⟩⟩
    · simp [bytesV_length]
    · simp only [List.size_toArray, List.length_append, bytesV_length, List.length_drop, Array.length_toList, hm, Nat.mul_one] at h6 ⊢
      omega
    · simp [bytesV_length]
end Go.Proofs.YtflbioiildndoaaGreatDoor

/- block: copy of bytes onto an owned row; cloned; what a disk tells -/
namespace Go.Proofs.YtflbioiildndoaaGreatDoor
open Go.RowKit
set_option linter.unusedVariables false
set_option linter.unusedSimpArgs false

/-- what copy makes of the world, and of the row -/
theorem run_copy_bytes {w : World} {base g n cap : Nat} {l : List UInt8} (hown : Own w base (.slice (some ⟨g, 0, none⟩) n cap) l) (hn : n = l.length) {X : Value} {m : List UInt8} (hsrc : BytesAt w X m) (hml : m.length ≤ l.length) (ty : TypeId) :
    ∃ w', (Builtin.copy_ #[53, 53] ty #[.slice (some ⟨g, 0, none⟩) n cap, X]).run Tryz.prog w = .ok (goInt m.length) w' ∧ Own w' base (.slice (some ⟨g, 0, none⟩) n cap) (m ++ l.drop m.length) ∧ w.grownBy w' (some g) := by
  obtain ⟨i0, hi, hz0, hz1, hz2⟩ := info_parts Tryz.infoByte
  have hsz : (Tryz.prog.info? 5).map (·.size) = some 1 := by rw [hi]; simp [hz1]
  obtain ⟨a, c, rfl, h1, h2, h3⟩ := hsrc
  by_cases h0 : m.length = 0
  · obtain rfl : m = [] := List.eq_nil_of_length_eq_zero h0
    have hrun := run_copy_none (P := Tryz.prog) w 53 53 ty 5 (some ⟨g, 0, none⟩) a n cap 0 c Tryz.underlying53 hsz (by simp)
    exact ⟨w, by simpa using hrun, by simpa using hown, World.grownBy.refl _ _⟩
  · rcases h3 with h3 | ⟨b, o, rfl, hc⟩
    · exact absurd (by rw [h3]; rfl) h0
    · obtain ⟨cur, hg, hcur, htake, hnew⟩ := setRow_own hown hn (m ++ l.drop m.length) (by simp; omega)
      have hrun := run_copy_row (P := Tryz.prog) w 53 53 ty 5 g 0 n cap ⟨b, o, none⟩ m.length c cur 5 (bytesV m) Tryz.underlying53 hsz hg (by rw [bytesV_length, hn]; exact (Nat.min_eq_left hml).symm)
        (fun j v hv => by
          unfold bytesV at hv
          rw [List.getElem?_map] at hv
          cases hm : m[j]? with
          | none => rw [hm] at hv; cases hv
          | some x =>
            rw [hm] at hv
            cases hv
            rw [Addr.add_lit]
            exact hc j x hm) (by rw [bytesV_length]; omega) (fun v hv => by
          unfold bytesV at hv
          obtain ⟨x, _, rfl⟩ := List.mem_map.1 hv
          rfl)
      have e3 : cur.toList.drop m.length = bytesV (l.drop m.length) ++ cur.toList.drop l.length := by
        have e2 : cur.toList.drop m.length = (cur.toList.take l.length ++ cur.toList.drop l.length).drop m.length := by rw [List.take_append_drop]
        rw [e2, htake, List.drop_append_of_le_length (by rw [bytesV_length]; exact hml)]
        have e4 : (bytesV l).drop m.length = bytesV (l.drop m.length) := by unfold bytesV; rw [List.map_drop]
        rw [e4]
      have e : cur.toList.take 0 ++ bytesV m ++ cur.toList.drop (0 + (bytesV m).length) = bytesV (m ++ l.drop m.length) ++ cur.toList.drop l.length := by
        rw [List.take_zero, List.nil_append, Nat.zero_add, bytesV_append, List.append_assoc, bytesV_length, e3]
      rw [e, bytesV_length] at hrun
      exact ⟨_, hrun, hnew, ⟨rfl, rfl, rfl, by simp [World.setRow], fun k _ hk => setRow_other w g k _ (fun e => hk (by rw [e]))⟩⟩
theorem wpList_copy_bytes {ops : Array Oper} {rest : List Oper} {o : Oper} {a : Act} {Q : Exit → Act → World → Prop} {w : World} (hgd : o.guard = none) (d s : Operand)
    (ho : o.op = .call { callee := .builtin .copy, args := #[d, s], argTypes := #[53, 53] }) (base g n cap : Nat) (l : List UInt8)
    (hd : a.eval d = .slice (some ⟨g, 0, none⟩) n cap) (hown : Own w base (.slice (some ⟨g, 0, none⟩) n cap) l) (hn : n = l.length) (X : Value) (m : List UInt8) (hx : a.eval s = X) (hsrc : BytesAt w X m) (hml : m.length ≤ l.length)
    (h : ∀ w', Own w' base (.slice (some ⟨g, 0, none⟩) n cap) (m ++ l.drop m.length) → w.grownBy w' (some g) → wpList Tryz.prog ops Q rest (a.put o.dst (goInt m.length)) w') : wpList Tryz.prog ops Q (o :: rest) a w := by
  refine wpList_plain hgd fun K hK => ?_
  obtain ⟨w', hrun, h2, h3⟩ := run_copy_bytes hown hn hsrc hml o.type
  unfold Oper.wp
  simp [execOp, ho, resolve, invoke, builtin, hd, hx, hrun, Result.andThen]
  exact hK _ _ (h w' h2 h3)
theorem step_copy_bytes {o : Oper} {a : Act} {w : World} {K : Act → World → Prop} {Q : Exit → Act → World → Prop} (d s : Operand)
    (ho : o.op = .call { callee := .builtin .copy, args := #[d, s], argTypes := #[53, 53] }) (base g n cap : Nat) (l : List UInt8)
    (hd : a.eval d = .slice (some ⟨g, 0, none⟩) n cap) (hown : Own w base (.slice (some ⟨g, 0, none⟩) n cap) l) (hn : n = l.length) (m : List UInt8) (hsrc : BytesAt w (a.eval s) m) (hml : m.length ≤ l.length)
    (h : ∀ w', Own w' base (.slice (some ⟨g, 0, none⟩) n cap) (m ++ l.drop m.length) → w.grownBy w' (some g) → K (a.put o.dst (goInt m.length)) w') : o.wp Tryz.prog a w K Q := by
  obtain ⟨w', hrun, h2, h3⟩ := run_copy_bytes hown hn hsrc hml o.type
  unfold Oper.wp
  simp [execOp, ho, resolve, invoke, builtin, hd, hrun, Result.andThen]
  exact h w' h2 h3

set_option maxRecDepth 100000 in
theorem cloned_any (v : Value) (l : List UInt8) (w : World) (hb : BytesAt w v l) (hl : l.length ≤ 100000000) :
    Calls Tryz.prog 45 #[v] w fun e w' => (e = .returned (.slice (some ⟨w.heap.size, 0, none⟩) l.length l.length) ∧ Own w' w.heap.size (.slice (some ⟨w.heap.size, 0, none⟩) l.length l.length) l) ∧ Below w.heap.size w w' := by
  obtain ⟨a, c, rfl, hlc, hcm, -⟩ := id hb
  unfold maxLen at hcm
  have HB := Lib.hid hb
  clear hb
  go_enter Tryz.func45, Tryz.ntmps45
  go_upto_region 2 with (at_make; (refine wpList_make_bytes rfl _ _ rfl l.length _ _ rfl rfl (by omega) (by omega) (by omega) ?_))
  intro w1 hown hgrow
  have hb1 := (Below.refl w.heap.size w).grown hgrow (Nat.le_refl _) (by intro k hk; cases hk)
  have HO := Lib.hid hown
  have HB1 := Lib.hid hb1
  clear hown hgrow hb1
  go_upto_region 3 with ((with_reducible show wpList _ _ _ _ _ _); (refine wpList_copy_bytes rfl (.tmp 7) (.tmp 8) rfl w.heap.size w.heap.size l.length l.length (List.replicate l.length 0) rfl HO.out (by simp) _ l rfl (HB.out.below HB1.out) (by simp) ?_))
  intro w2 ho2 hg2
  have HO2 : Hid (Own w2 w.heap.size (.slice (some ⟨w.heap.size, 0, none⟩) l.length l.length) l) := Lib.hid (by simpa using ho2)
  have HB2 := Lib.hid (HB1.out.trans (below_of_grown hg2 (Nat.le_refl _) HB1.out.size))
  clear ho2 hg2
  go_wp2_with fail
  go_ret
  exact ⟨⟨rfl, HO2.out⟩, HB2.out⟩
/-- what a call tells that hands back bytes in new memory -/
def GivesB (w : World) (l : List UInt8) (e : Ending) (w' : World) : Prop := ∃ g, e = .returned (.tuple #[.slice (some ⟨g, 0, none⟩) l.length l.length, .nilIface]) ∧ Own w' w.heap.size (.slice (some ⟨g, 0, none⟩) l.length l.length) l
/-- what a call tells that hands back no bytes, but an error -/
def FailsB (w : World) (A : Nat → Addr) (l : List Int) (k : Nat) (e : Ending) (w' : World) : Prop := ∃ E, e = .returned (.tuple #[.slice none 0 0, E]) ∧ ErrIs w' A w.heap.size l k E

section
variable {F : Nat → Prop} {w : World} {p n : Nat} {d : Bk.Disk} {lv wv kv : Value} {gs : List (Nat × Nat)} {hs : List (Int × Nat × Nat)}
theorem DiskP.lastRow (h : DiskP F w p d lv wv kv gs hs) (ho : Bk.Ok n d) : ∃ lg lc, lv = .slice (some ⟨lg, 0, none⟩) d.blocks lc ∧ d.blocks ≤ lc ∧ lc ≤ maxLen := by
  have hl : gs.length = d.blocks := by rw [h.glen, ho.len]
  rcases h.last.row with ⟨rfl, h0⟩ | ⟨g, cap, h1, _, _, h4, h5⟩
  · have := ho.b; rw [h0] at hl; simp at hl; omega
  · rw [hl] at h1 h4
    exact ⟨g, cap, h1, h4, h5⟩
theorem DiskP.lastCell (h : DiskP F w p d lv wv kv gs hs) (ho : Bk.Ok n d) {lg lc : Nat} (e : lv = .slice (some ⟨lg, 0, none⟩) d.blocks lc) {i : Nat} (hi : i < d.blocks) : ∃ g : Nat × Nat, gs[i]? = some g ∧ w.cell? ⟨lg, i, none⟩ = some (.slice (some ⟨g.1, 0, none⟩) d.size g.2) ∧ w.frozen? ⟨lg, i, none⟩ = false ∧ Own w 0 (.slice (some ⟨g.1, 0, none⟩) d.size g.2) (Bk.lastB d i) := by
  subst e
  obtain ⟨g, hg⟩ := getElem?_some_of_lt (l := gs) (k := i) (by rw [h.glen, ho.len]; exact hi)
  have hc := OwnR.cell (eBk_ok d.size) h.last hg (j := 0) (u := .slice (some ⟨g.1, 0, none⟩) d.size g.2) rfl
  simp only [Nat.mul_one, Nat.add_zero] at hc
  exact ⟨g, hg, hc, h.last.free i, h.geach i g _ hg (ho.lastB hi).2⟩
theorem DiskP.waitCell (h : DiskP F w p d lv wv kv gs hs) {i : Nat} {z : Nat × Bk.Blk} (hz : d.waiting[i]? = some z) : ∃ wg wc g c, wv = .slice (some ⟨wg, 0, none⟩) d.waiting.length wc ∧ hs[i]? = some ((z.1 : Int), g, c) ∧ w.cell? ⟨wg, i * 2, none⟩ = some (.int .i64 (z.1 : Int)) ∧ w.cell? ⟨wg, i * 2 + 1, none⟩ = some (.slice (some ⟨g, 0, none⟩) d.size c) ∧ Own w 0 (.slice (some ⟨g, 0, none⟩) d.size c) z.2 := by
  have hi : i < hs.length := by rw [h.hlen]; exact (List.getElem?_eq_some_iff.1 hz).1
  obtain ⟨⟨x, g, c⟩, hx⟩ := getElem?_some_of_lt hi
  obtain ⟨e, ho⟩ := h.heach i _ z hx hz
  simp only at e
  subst e
  rcases h.wait.row with ⟨rfl, h0⟩ | ⟨wg, wc, h1, _⟩
  · rw [h0] at hi; simp at hi
  · subst h1
    have c0 := OwnR.cell (eWk_ok d.size) h.wait hx (j := 0) (u := .int .i64 (z.1 : Int)) rfl
    have c1 := OwnR.cell (eWk_ok d.size) h.wait hx (j := 1) (u := .slice (some ⟨g, 0, none⟩) d.size c) rfl
    simp only [Nat.add_zero] at c0 c1
    exact ⟨wg, wc, g, c, by rw [h.hlen], hx, c0, c1, ho⟩
end

end Go.Proofs.YtflbioiildndoaaGreatDoor

/- block: Lasting where there is no such block; Geometry, Off, Count, Waiting; Read -/
namespace Go.Proofs.YtflbioiildndoaaGreatDoor
open Go.RowKit
set_option linter.unusedVariables false
set_option linter.unusedSimpArgs false

theorem read_err (i : Int) (k : Nat) (l : List Int) (hk : k ≠ 0) (P : Value) (w : World) (A : Nat → Addr)
    (hc : ∀ (op : ByteArray) (w1 : World), w1 = w → Calls Tryz.prog 44 #[P, .string op, .int .i64 i] w1 fun e w' => IsFault A w.heap.size l k e w' ∧ Below w.heap.size w w') :
    Calls Tryz.prog 15 #[P, .int .i64 i] w fun e w' => FailsB w A l k e w' ∧ Below w.heap.size w w' := by
  have HC := Lib.hid hc
  clear hc
  go_enter Tryz.func15, Tryz.ntmps15
  go_wp2_with (go_at_call 44; refine (HC.out _ _ rfl).mono ?_; rintro e w' ⟨⟨v, rfl, hv⟩, hb⟩; obtain ⟨tv, xv, rfl⟩ := hv.iface hk)
  go_ret2
  exact ⟨⟨_, rfl, hv⟩, hb⟩
theorem read_out {S : Nat → Prop} [Has S 1] [Has S 2] [Has S 7] {F : Nat → Prop} {w : World} {p : Nat} {d : Bk.Disk} (hd : DiskAt F w p d) (i : Int) (h1 : i < 0 ∨ (d.blocks : Int) ≤ i) (A : Nat → Addr) (hs : SentsOn S w A) :
    Calls Tryz.prog 15 #[.pointer (some ⟨p, 0, none⟩), .int .i64 i] w fun e w' => FailsB w A [max i (-1)] 2 e w' ∧ Below w.heap.size w w' := by
  obtain ⟨lv, wv, kv, gs, hs0, hp⟩ := hd
  exact read_err i 2 _ (by decide) _ w A fun op w1 e => by subst e; exact on_out p op i _ _ hp.box.eleven.1 h1 A hs
theorem read_off {S : Nat → Prop} [Has S 1] [Has S 2] [Has S 7] {F : Nat → Prop} {w : World} {p : Nat} {d : Bk.Disk} (hd : DiskAt F w p d) (i : Int) (h1 : 0 ≤ i) (h2 : i < d.blocks) (hoff : d.off = true) (A : Nat → Addr) (hs : SentsOn S w A) :
    Calls Tryz.prog 15 #[.pointer (some ⟨p, 0, none⟩), .int .i64 i] w fun e w' => FailsB w A [max i (-1)] 7 e w' ∧ Below w.heap.size w w' := by
  obtain ⟨lv, wv, kv, gs, hs0, hp⟩ := hd
  refine read_err i 7 _ (by decide) _ w A fun op w1 e => ?_
  subst e
  refine on_off p op i _ _ hp.box.eleven.1 h1 h2 ?_ A hs
  rw [hp.box.at 9 (.bool d.off) rfl, hoff]
theorem read_nil {S : Nat → Prop} [Has S 1] [Has S 2] [Has S 7] (i : Int) (w : World) (A : Nat → Addr) (hs : SentsOn S w A) :
    Calls Tryz.prog 15 #[.pointer none, .int .i64 i] w fun e w' => FailsB w A [-1] 7 e w' ∧ Below w.heap.size w w' :=
  read_err i 7 _ (by decide) _ w A fun op w1 e => by subst e; exact on_nil op i _ A hs

/-! ### what a disk tells of itself -/
theorem geo_is {F : Nat → Prop} {w : World} {p : Nat} {d : Bk.Disk} (hd : DiskAt F w p d) :
    Calls Tryz.prog 63 #[.pointer (some ⟨p, 0, none⟩)] w fun e w' => e = .returned (.agg #[.int .i64 (d.blocks : Int), .int .i64 (d.size : Int)]) ∧ Below w.heap.size w w' := by
  obtain ⟨lv, wv, kv, gs, hs0, hp⟩ := hd
  obtain ⟨m0, m1, -⟩ := hp.box.eleven
  have hpl := hp.box.lt
  clear hp
  go_enter Tryz.func63, Tryz.ntmps63
  go_wp2_with fail
  exact bodyPost_ret (v := .agg #[.int .i64 (d.blocks : Int), .int .i64 (d.size : Int)]) (by simp [results, Tryz.results63, go_sem]) rfl ⟨rfl, by go_grown⟩
theorem geo_nil (w : World) :
    Calls Tryz.prog 63 #[.pointer none] w fun e w' => e = .returned (.agg #[.int .i64 0, .int .i64 0]) ∧ Below w.heap.size w w' := by
  go_enter Tryz.func63, Tryz.ntmps63
  go_wp2_with fail
  exact bodyPost_ret (v := .agg #[.int .i64 0, .int .i64 0]) (by simp [results, Tryz.results63, go_sem]) rfl ⟨rfl, by go_grown⟩
theorem waiting_is {F : Nat → Prop} {w : World} {p : Nat} {d : Bk.Disk} (hd : DiskAt F w p d) :
    Calls Tryz.prog 14 #[.pointer (some ⟨p, 0, none⟩)] w fun e w' => e = .returned (.int .i64 (d.waiting.length : Int)) ∧ w = w' := by
  obtain ⟨lv, wv, kv, gs, hs0, hp⟩ := hd
  have m3 := hp.box.at 3 wv rfl
  obtain ⟨a, c, e, -⟩ := hp.wait.slice
  rw [hp.hlen] at e
  subst e
  clear hp
  go_enter Tryz.func14, Tryz.ntmps14
  go_wp2_with fail
  go_ret
  exact ⟨rfl, rfl⟩
theorem waiting_nil (w : World) :
    Calls Tryz.prog 14 #[.pointer none] w fun e w' => e = .returned (.int .i64 0) ∧ w = w' := by
  go_enter Tryz.func14, Tryz.ntmps14
  go_wp2_with fail
  go_ret
  exact ⟨rfl, rfl⟩

/-! ### Read -/
theorem readK_hit {q : List (Nat × Bk.Blk)} {i : Nat} {base : Bk.Blk} {k : Nat} {z : Nat × Bk.Blk} (h : q[k]? = some z) (e : z.1 = i) : Bk.readK q i base (k + 1) = z.2 := by rw [Bk.readK, h]; simp [e]
theorem readK_miss {q : List (Nat × Bk.Blk)} {i : Nat} {base : Bk.Blk} {k : Nat} {z : Nat × Bk.Blk} (h : q[k]? = some z) (e : z.1 ≠ i) : Bk.readK q i base (k + 1) = Bk.readK q i base k := by rw [Bk.readK, h]; simp [e]
def ReadsAt (d : Bk.Disk) (i : Nat) (l : List UInt8) (kk : Value) : Prop := (∃ m : Nat, m < d.waiting.length ∧ kk = .int .i64 (m : Int) ∧ Bk.readK d.waiting i (Bk.lastB d i) (m + 1) = l) ∨ (kk = .int .i64 (-1) ∧ Bk.lastB d i = l)
set_option maxRecDepth 100000 in
theorem read_ok {F : Nat → Prop} {w : World} {p n : Nat} {d : Bk.Disk} (hd : DiskAt F w p d) (ho : Bk.Ok n d) (i : Int) (h1 : 0 ≤ i) (h2 : i < d.blocks) (hoff : d.off = false) (l : List UInt8) (hl : Bk.read d i.toNat = l) :
    Calls Tryz.prog 15 #[.pointer (some ⟨p, 0, none⟩), .int .i64 i] w fun e w' => GivesB w l e w' ∧ Below w.heap.size w w' := by
  obtain ⟨lv, wv, kv, gs, hs, hp⟩ := hd
  obtain ⟨lg, lc, elv, hlc, hcm⟩ := hp.lastRow ho
  obtain ⟨k, rfl⟩ : ∃ k : Nat, i = (k : Int) := ⟨i.toNat, by omega⟩
  have hk : k < d.blocks := by omega
  simp only [Int.toNat_natCast] at hl
  have hll : l.length = d.size := by rw [← hl]; exact ho.read hk
  have hsz := ho.s
  obtain ⟨m0, -, m2, m3, -, -, -, -, -, m9, -⟩ := hp.box.eleven
  rw [hoff] at m9
  subst elv
  unfold maxLen at hcm
  have hlen : l.length ≤ 100000000 := by omega
  obtain ⟨wa, wc, ewv, hwl, hwm⟩ := hp.wait.slice
  rw [hp.hlen] at ewv hwl
  unfold maxLen at hwm
  subst ewv
  have HP := Lib.hid hp
  have HOK := Lib.hid ho
  have HL := Lib.hid hl
  have HLL := Lib.hid hll
  have k1 : (0 : Int) ≤ (k : Int) := by omega
  have hstart : ∀ x, x = Value.int .i64 ((d.waiting.length : Int) - 1) → ReadsAt d k l x := by
    rintro x rfl
    unfold Bk.read at hl
    cases hn : d.waiting.length with
    | zero =>
      rw [hn] at hl
      exact .inr ⟨by rw [show ((0 : Nat) : Int) - 1 = -1 from rfl], hl⟩
    | succ m =>
      rw [hn] at hl
      exact .inl ⟨m, by rw [hn]; omega, by rw [show ((m + 1 : Nat) : Int) - 1 = (m : Int) by omega], hl⟩
  have HST := Lib.hid hstart
  clear hp ho hl hll hstart
  go_enter Tryz.func15, Tryz.ntmps15
  go_wp2_with (go_at_call 44; refine (on_ok p _ (k : Int) _ _ m0 h1 h2 m9).mono ?_; rintro e w1 ⟨rfl, rfl⟩)
  go_loop [7] (fun kk => ReadsAt d k l kk) (fun kk => (intOf kk + 1).toNat)
  case atStart => exact HST.out _ rfl
  case round =>
    rcases hrel with ⟨m, hm, rfl, hr⟩ | ⟨rfl, hr⟩
    · obtain ⟨z, hz⟩ := getElem?_some_of_lt hm
      obtain ⟨wg, wc2, g, c, ewv, hhs, c0, c1, hown⟩ := HP.out.waitCell hz
      simp only [Value.slice.injEq, true_and] at ewv
      obtain ⟨rfl, rfl⟩ := ewv
      have hm1 : (0 : Int) ≤ (m : Int) := by omega
      have hm2 : (m : Int) < (d.waiting.length : Int) := by omega
      by_cases hzi : z.1 = k
      · have e1 : ((z.1 : Int) == (k : Int)) = true := by simp [hzi]
        have ez : z.2 = l := (readK_hit hz hzi).symm.trans hr
        rw [ez, ← HLL.out] at hown
        rw [← HLL.out] at c1
        have HO := Lib.hid hown
        clear hown hr hzi hz hhs ez
        go_wp2_with (go_at_call 45; refine (cloned_any _ l _ HO.out.bytes hlen).mono ?_; rintro e w2 ⟨⟨rfl, ho2⟩, hb2⟩)
        go_ret2
        exact ⟨⟨_, rfl, ho2⟩, hb2⟩
      · have e1 : ((z.1 : Int) == (k : Int)) = false := by simp; omega
        have hr2 := (readK_miss hz hzi).symm.trans hr
        have HR2 := Lib.hid hr2
        clear hown hr hzi hz hhs hr2
        cases m with
        | zero =>
          go_wp2_with fail
          go_round
          case rel => exact .inr ⟨by simp, HR2.out⟩
          case measure => simp [intOf]
        | succ m =>
          go_wp2_with fail
          go_round
          case rel => exact .inl ⟨m, by omega, by first | rfl | (rw [show ((m + 1 : Nat) : Int) - 1 = (m : Int) by omega]), HR2.out⟩
          case measure => first | (simp [intOf]; done) | (simp [intOf]; omega)
    · obtain ⟨g, hg, hc, hf, hown⟩ := HP.out.lastCell HOK.out rfl hk
      rw [hr, ← HLL.out] at hown
      rw [← HLL.out] at hc
      have HO := Lib.hid hown
      clear hown hr hg hf
      go_wp2_with (go_at_call 45; refine (cloned_any _ l _ HO.out.bytes hlen).mono ?_; rintro e w2 ⟨⟨rfl, ho2⟩, hb2⟩)
      go_ret2
      exact ⟨⟨_, rfl, ho2⟩, hb2⟩
end Go.Proofs.YtflbioiildndoaaGreatDoor

/- block: crash -/
namespace Go.Proofs.YtflbioiildndoaaGreatDoor
open Go.RowKit
set_option linter.unusedVariables false
set_option linter.unusedSimpArgs false

/-- behind k of the writes that wait -/
def CrashI (F : Nat → Prop) (w : World) (p : Nat) (d : Bk.Disk) (lv wv kv : Value) (gs : List (Nat × Nat)) (hs : List (Int × Nat × Nat)) (keepV : Value) (keep : List Bool) (which cut : Int) (k : Nat) (wr : World) : Prop :=
  DiskP F wr p { d with lasting := Bk.crashK keep which cut d.waiting d.lasting k } lv wv kv gs hs ∧ Beside F w wr ∧ RowAt eBool wr keepV keep
theorem CrashI.alloc {F : Nat → Prop} {w : World} {p : Nat} {d : Bk.Disk} {lv wv kv : Value} {gs : List (Nat × Nat)} {hs : List (Int × Nat × Nat)} {keepV : Value} {keep : List Bool} {which cut : Int} {k : Nat} {wr wr' : World}
    (h : CrashI F w p d lv wv kv gs hs keepV keep which cut k wr) (hb : Below wr.heap.size wr wr') : CrashI F w p d lv wv kv gs hs keepV keep which cut k wr' :=
  ⟨h.1.on fun i hi => hb.block i (h.1.lt i hi), h.2.1.same (Beside.of_below hb), h.2.2.below hb⟩
theorem RowAt.grownR {α : Type} {E : Elem α} {w w' : World} {v : Value} {l : List α} {row : Option Nat} (h : RowAt E w v l) (hg : w.grownBy w' row) (hne : ∀ k, v.ownBlock = some k → row ≠ some k) : RowAt E w' v l := by
  obtain ⟨a, c, rfl, h1, h2, h3⟩ := h
  refine ⟨a, c, rfl, h1, h2, h3.imp id ?_⟩
  rintro ⟨b, o, rfl, hc⟩
  exact ⟨b, o, rfl, fun i x hx j u hu => hg.cell (hc i x hx j u hu) (fun e => hne b rfl e.symm)⟩
theorem DiskP.drew {F : Nat → Prop} {w : World} {p : Nat} {d : Bk.Disk} {lv wv kv : Value} {gs : List (Nat × Nat)} {hs : List (Int × Nat × Nat)} (h : DiskP F w p d lv wv kv gs hs) : DiskP F w.drew p d lv wv kv gs hs := h.on fun _ _ => rfl
theorem CrashI.drew {F : Nat → Prop} {w : World} {p : Nat} {d : Bk.Disk} {lv wv kv : Value} {gs : List (Nat × Nat)} {hs : List (Int × Nat × Nat)} {keepV : Value} {keep : List Bool} {which cut : Int} {k : Nat} {wr : World}
    (h : CrashI F w p d lv wv kv gs hs keepV keep which cut k wr) : CrashI F w p d lv wv kv gs hs keepV keep which cut k wr.drew := h.alloc (Below.refl _ _).drew
/-- a block is kept, or torn -/
theorem CrashI.next {F : Nat → Prop} {w : World} {p : Nat} {d : Bk.Disk} {lv wv kv : Value} {gs : List (Nat × Nat)} {hs : List (Int × Nat × Nat)} {keepV : Value} {keep : List Bool} {which cut : Int} {k : Nat} {wr wr' : World} {z : Nat × Bk.Blk} {g : Nat × Nat} {B : Bk.Blk}
    (h : CrashI F w p d lv wv kv gs hs keepV keep which cut k wr) (hkg : keep = [] ∨ ∀ k, keepV.ownBlock = some k → k ≠ p ∧ ∀ g ∈ gs, g.1 ≠ k) (hz : d.waiting[k]? = some z) (hgi : gs[z.1]? = some g) (hg : wr.grownBy wr' (some g.1))
    (hb : Own wr' 0 (.slice (some ⟨g.1, 0, none⟩) d.size g.2) B) (hB : Bk.crash1 keep which cut (Bk.crashK keep which cut d.waiting d.lasting k) k z = (Bk.crashK keep which cut d.waiting d.lasting k).set z.1 B) : CrashI F w p d lv wv kv gs hs keepV keep which cut (k + 1) wr' := by
  obtain ⟨h1, h2, h3⟩ := h
  have hF : F g.1 := h1.inF _ (mem_gs hgi)
  refine ⟨?_, h2.same (Beside.of_grown hg hF), ?_⟩
  · have := h1.setLast hgi hg hb
    rw [Bk.crashK, hz]
    simp only
    rw [hB]
    exact this
  · rcases hkg with rfl | hkg
    · exact h3.ofNil
    · exact h3.grownR hg fun j hj e => by cases e; exact (hkg _ hj).2 g (List.mem_of_getElem? hgi) rfl
theorem CrashI.skip {F : Nat → Prop} {w : World} {p : Nat} {d : Bk.Disk} {lv wv kv : Value} {gs : List (Nat × Nat)} {hs : List (Int × Nat × Nat)} {keepV : Value} {keep : List Bool} {which cut : Int} {k : Nat} {wr : World} {z : Nat × Bk.Blk}
    (h : CrashI F w p d lv wv kv gs hs keepV keep which cut k wr) (hz : d.waiting[k]? = some z) (hB : Bk.crash1 keep which cut (Bk.crashK keep which cut d.waiting d.lasting k) k z = Bk.crashK keep which cut d.waiting d.lasting k) : CrashI F w p d lv wv kv gs hs keepV keep which cut (k + 1) wr := by
  obtain ⟨h1, h2, h3⟩ := h
  refine ⟨?_, h2, h3⟩
  rw [Bk.crashK, hz]
  simp only
  rw [hB]
  exact h1
theorem crashK_ok {n : Nat} {d : Bk.Disk} (ho : Bk.Ok n d) (keep : List Bool) (which cut : Int) (k : Nat) : Bk.Ok n { d with lasting := Bk.crashK keep which cut d.waiting d.lasting k } := by
  have hr := Bk.crashK_row ho.row keep which cut ho.wait k
  exact ⟨ho.b, ho.s, hr.1, hr.2, ho.wait, ho.many⟩
set_option maxRecDepth 100000 in
theorem crash_any {F : Nat → Prop} {w : World} {p n : Nat} {d : Bk.Disk} {lv wv kv : Value} {gs : List (Nat × Nat)} {hs : List (Int × Nat × Nat)} (hp : DiskP F w p d lv wv kv gs hs) (ho : Bk.Ok n d)
    (keepA : Option Addr) (keepC : Nat) (keep : List Bool) (hk : RowAt eBool w (.slice keepA keep.length keepC) keep) (hkg : keep = [] ∨ ∀ k, (Value.slice keepA keep.length keepC).ownBlock = some k → k ≠ p ∧ ∀ g ∈ gs, g.1 ≠ k) (which cut : Int) :
    Calls Tryz.prog 77 #[.pointer (some ⟨p, 0, none⟩), .slice keepA keep.length keepC, .int .i64 which, .int .i64 cut] w fun e w' => (∃ v, e = .returned v) ∧ DiskP F w' p (Bk.crash d keep which cut) lv (.slice none 0 0) kv gs [] ∧ Beside F w w' := by
  obtain ⟨lg, lc, elv, hlc, hcm⟩ := hp.lastRow ho
  subst elv
  unfold maxLen at hcm
  obtain ⟨wa, wc, ewv, hwl, hwm⟩ := hp.wait.slice
  rw [hp.hlen] at ewv hwl
  unfold maxLen at hwm
  subst ewv
  obtain ⟨m0, -, m2, m3, -, -, -, -, -, m9, -⟩ := hp.box.eleven
  have HP := Lib.hid hp
  have HOK := Lib.hid ho
  have HK := Lib.hid hk
  have HKG := Lib.hid hkg
  clear hp ho hk hkg
  go_enter Tryz.func77, Tryz.ntmps77
  go_wp2_with fail
  go_loopw [15] (fun i wr => ∃ k : Nat, k ≤ d.waiting.length ∧ i = .int .i64 (k : Int) ∧ CrashI F w p d (.slice (some ⟨lg, 0, none⟩) d.blocks lc) (.slice wa d.waiting.length wc) kv gs hs (.slice keepA keep.length keepC) keep which cut k wr) (fun i _ => d.waiting.length - (intOf i).toNat)
  case atStart => exact ⟨0, Nat.zero_le _, rfl, HP.out, Beside.refl _ _, HK.out⟩
  case round =>
    obtain ⟨k, hk, rfl, hi⟩ := hrel
    have HI := Lib.hid hi
    have ho2 := HOK.out
    clear m0 m2 m3 m9
    obtain ⟨m0, -, m2, m3, -, -, -, -, -, m9, -⟩ := hi.1.box.eleven
    by_cases hlt : k < d.waiting.length
    · obtain ⟨z, hz⟩ := getElem?_some_of_lt hlt
      obtain ⟨wg, wc2, wb, wbc, ewv, hhs, c0, c1, hown⟩ := hi.1.waitCell hz
      simp only [Value.slice.injEq, true_and] at ewv
      obtain ⟨rfl, rfl⟩ := ewv
      have hlt1 : (k : Int) < (d.waiting.length : Int) := by omega
      have hk0 : (0 : Int) ≤ (k : Int) := by omega
      have HZ := Lib.hid hz
      have HO := Lib.hid (show Own wr 0 (.slice (some ⟨wb, 0, none⟩) d.size wbc) z.2 from hown)
      have c1' : wr.cell? ⟨wg, k * 2 + 1, none⟩ = some (.slice (some ⟨wb, 0, none⟩) d.size wbc) := c1
      have hzb := ho2.wait k z hz
      clear hi hz hhs hown c1
      go_upto_region 3 with fail
      refine wp_name fun W hW => ?_
      have HX := Lib.hid (show BoxAt W wr.heap.size [.int .i64 (z.1 : Int), .slice (some ⟨wb, 0, none⟩) d.size wbc] by rw [hW]; exact BoxAt.new wr [_, _] _)
      have HIW := Lib.hid (show CrashI F w p d (.slice (some ⟨lg, 0, none⟩) d.blocks lc) (.slice (some ⟨wg, 0, none⟩) d.waiting.length wc) kv gs hs (.slice keepA keep.length keepC) keep which cut k W by rw [hW]; exact HI.out.alloc ((Below.refl _ _).alloc (Nat.le_refl _) _))
      have HBW := Lib.hid (show Below wr.heap.size wr W by rw [hW]; exact (Below.refl _ _).alloc (Nat.le_refl _) _)
      clear hW m0 m2 m3 m9
      obtain ⟨m0, -, m2, m3, -, -, -, -, -, m9, -⟩ := HIW.out.1.box.eleven
      obtain ⟨x0, x1⟩ := HX.out.two
      obtain ⟨g, hgi, hgc, hgf, hown⟩ := HIW.out.1.lastCell (crashK_ok HOK.out keep which cut k) rfl hzb.1
      by_cases hkw : (k : Int) = which
      · obtain rfl : which = (k : Int) := hkw.symm
        go_upto_region 4 with fail
        obtain ⟨LB, hLB⟩ : ∃ LB, Bk.lastB { d with lasting := Bk.crashK keep (k : Int) cut d.waiting d.lasting k } z.1 = LB := ⟨_, rfl⟩
        have hLBl : LB.length = d.size := by rw [← hLB]; exact ((crashK_ok HOK.out keep (k : Int) cut k).lastB hzb.1).1
        obtain ⟨c, hcc, hcs, hct⟩ : ∃ c : Nat, (if (0 : Int) < (if (d.size : Int) < cut then (d.size : Int) else cut) then (if (d.size : Int) < cut then (d.size : Int) else cut) else 0) = (c : Int) ∧ c ≤ d.size ∧ Bk.tornB LB z.2 cut = z.2.take c ++ LB.drop c := by
          have hzl := hzb.2
          unfold Bk.tornB
          by_cases a1 : (d.size : Int) < cut
          · refine ⟨d.size, by rw [if_pos a1]; split <;> omega, Nat.le_refl _, ?_⟩
            rw [List.take_of_length_le (by omega), List.take_of_length_le (by omega), List.drop_of_length_le (by omega), List.drop_of_length_le (by omega)]
          · by_cases a2 : 0 < cut
            · exact ⟨cut.toNat, by rw [if_neg a1, if_pos a2]; omega, by omega, rfl⟩
            · exact ⟨0, by rw [if_neg a1, if_neg a2]; rfl, by omega, by rw [show cut.toNat = 0 by omega]⟩
        have HCT := Lib.hid hct
        have HLB := Lib.hid hLB
        have hz2 := hzb.2
        have HL1 := Lib.hid (show Own W.drew 0 (.slice (some ⟨g.1, 0, none⟩) d.size g.2) LB by rw [← hLB]; exact hown)
        have HL2 := Lib.hid (show d.size = LB.length from hLBl.symm)
        have HT := Lib.hid (show BytesAt W.drew (.slice (some ⟨wb, 0, none⟩) c wbc) (z.2.take c) from BytesAt.take (n := d.size) (HO.out.bytes.below HBW.out.drew) (by omega))
        clear hct hLB hown hLBl
        have hwc : d.size ≤ wbc := by
          rcases HO.out.row with ⟨e, -⟩ | ⟨g', cap', e, -, -, h4, -⟩
          · simp at e
          · simp only [Value.slice.injEq] at e
            omega
        have hc0 : (0 : Int) ≤ (c : Int) := by omega
        have hc1 : (c : Int) ≤ (wbc : Int) := by omega
        have n2 := Near.cell (w := W.drew) (row := none) m2 (by simp)
        have n3 := Near.cell (w := W.drew) (row := none) x0 (by simp)
        have n4 := Near.cell (w := W.drew) (row := none) x1 (by simp)
        have n5 := Near.cell (w := W.drew) (row := none) hgc (by simp)
        have hb0 : (0 : Int) ≤ (z.1 : Int) := by omega
        have hb1 : (z.1 : Int) < (d.blocks : Int) := by omega
        refine wp_region_mix (fun w' => ∃ x : Near W.drew none, w' = x.world) [17] 18 (by kernel_rfl) rfl ?_
        refine mix_reads_lit [0, 1, 2, 3, 4, 5, 6, 7, 8, 9, 10, 11, 12, 13, 14, 15, 16] 1 (by kernel_rfl) (by kernel_rfl) (by kernel_rfl) (by kernel_rfl) rfl (NearC.of (World.grownBy.refl _ _)) ?_
        simp only [pick, List.filterMap_cons, List.filterMap_nil, List.getElem?_cons_succ, List.getElem?_cons_zero]
        repeat (first | go_big_quiet_step (fail) | quiet_step (fail))
        refine wpQuiet_nil ?_
        refine mix_deed_lit 17 0 (by kernel_rfl) (by kernel_rfl) rfl (fun K hK => ?_)
        simp only [comesUp, List.getElem?_cons_succ, List.getElem?_cons_zero]
        refine if_mk rfl ?_
        refine step_copy_bytes (.tmp 31) (.tmp 40) rfl 0 g.1 d.size g.2 LB rfl HL1.out HL2.out (z.2.take c) HT.out (by have := HL2.out; rw [List.length_take]; omega) ?_
        intro w2 ho2 hg2
        have hcl : (z.2.take c).length = c := by rw [List.length_take]; omega
        rw [hcl] at ho2
        have HN := Lib.hid (HIW.out.drew.next HKG.out HZ.out hgi hg2 ho2 (by unfold Bk.crash1; rw [if_pos rfl, show (Bk.crashK keep (k : Int) cut d.waiting d.lasting k).getD z.1 [] = LB from HLB.out, HCT.out]))
        refine hK _ _ (fun h _ => by simp [keeps] at h) ?_
        clear hK K ho2 hg2 hcl
        refine mix_done_lit (by kernel_rfl) ?_
        go_wp2_with fail
        go_roundw
        case rel => exact ⟨k + 1, by omega, by go_num, HN.out⟩
        case measure => simp [intOf]; omega
      · have e1 : ((k : Int) == which) = false := by simpa using hkw
        have HNE := Lib.hid hkw
        clear hkw
        by_cases hkl : k < keep.length
        · obtain ⟨b, hb⟩ := getElem?_some_of_lt hkl
          obtain ⟨ka, kc, kcell⟩ : ∃ ka o, keepA = some ⟨ka, o, none⟩ ∧ W.cell? ⟨ka, o + k, none⟩ = some (.bool b) := by
            obtain ⟨a, c, e, -, -, h6⟩ := HIW.out.2.2
            simp only [Value.slice.injEq, true_and] at e
            obtain ⟨rfl, -⟩ := e
            rcases h6 with h6 | ⟨kb, o, rfl, hc⟩
            · rw [h6] at hkl; simp at hkl
            · have := hc k b hb 0 (.bool b) rfl
              simp only [Nat.mul_one, Nat.add_zero] at this
              exact ⟨kb, o, rfl, this⟩
          obtain ⟨rfl, kcell⟩ := kcell
          have hkl1 : (k : Int) < (keep.length : Int) := by omega
          have HB := Lib.hid hb
          clear hb
          cases b with
          | false =>
            have HN := Lib.hid (HIW.out.skip HZ.out (by unfold Bk.crash1; rw [if_neg HNE.out, if_neg (by rw [List.getD_eq_getElem?_getD, HB.out]; simp)]))
            go_wp2_with fail
            go_roundw
            case rel => exact ⟨k + 1, by omega, by go_num, HN.out⟩
            case measure => simp [intOf]; omega
          | true =>
            obtain ⟨LB, hLB⟩ : ∃ LB, Bk.lastB { d with lasting := Bk.crashK keep which cut d.waiting d.lasting k } z.1 = LB := ⟨_, rfl⟩
            have hLBl : LB.length = d.size := by rw [← hLB]; exact ((crashK_ok HOK.out keep which cut k).lastB hzb.1).1
            have hz2 := hzb.2
            go_upto_region 6 with fail
            have n2 := Near.cell (w := W.drew) (row := none) m2 (by simp)
            have n3 := Near.cell (w := W.drew) (row := none) x0 (by simp)
            have n4 := Near.cell (w := W.drew) (row := none) x1 (by simp)
            have n5 := Near.cell (w := W.drew) (row := none) hgc (by simp)
            have hb0 : (0 : Int) ≤ (z.1 : Int) := by omega
            have hb1 : (z.1 : Int) < (d.blocks : Int) := by omega
            have HL1 := Lib.hid (show Own W.drew 0 (.slice (some ⟨g.1, 0, none⟩) d.size g.2) LB by rw [← hLB]; exact hown)
            have HL2 := Lib.hid (show d.size = LB.length from hLBl.symm)
            have HT := Lib.hid (show BytesAt W.drew (.slice (some ⟨wb, 0, none⟩) d.size wbc) z.2 from HO.out.bytes.below HBW.out.drew)
            clear hLB hown hLBl
            refine wp_region_mix (fun w' => ∃ x : Near W.drew none, w' = x.world) [10] 11 (by kernel_rfl) rfl ?_
            refine mix_reads_lit [0, 1, 2, 3, 4, 5, 6, 7, 8, 9] 1 (by kernel_rfl) (by kernel_rfl) (by kernel_rfl) (by kernel_rfl) rfl (NearC.of (World.grownBy.refl _ _)) ?_
            simp only [pick, List.filterMap_cons, List.filterMap_nil, List.getElem?_cons_succ, List.getElem?_cons_zero]
            repeat (first | go_big_quiet_step (fail) | quiet_step (fail))
            refine wpQuiet_nil ?_
            refine mix_deed_lit 10 0 (by kernel_rfl) (by kernel_rfl) rfl (fun K hK => ?_)
            simp only [comesUp, List.getElem?_cons_succ, List.getElem?_cons_zero]
            refine if_mk rfl ?_
            refine step_copy_bytes (.tmp 60) (.tmp 62) rfl 0 g.1 d.size g.2 LB rfl HL1.out HL2.out z.2 HT.out (by have := HL2.out; omega) ?_
            intro w2 ho2 hg2
            have hdr : z.2 ++ LB.drop z.2.length = z.2 := by rw [List.drop_of_length_le (by have := HL2.out; omega), List.append_nil]
            rw [hdr] at ho2
            have HN := Lib.hid (HIW.out.drew.next HKG.out HZ.out hgi hg2 ho2 (by unfold Bk.crash1; rw [if_neg HNE.out, if_pos (by rw [List.getD_eq_getElem?_getD, HB.out]; rfl)]))
            refine hK _ _ (fun h _ => by simp [keeps] at h) ?_
            clear hK K ho2 hg2 hdr
            refine mix_done_lit (by kernel_rfl) ?_
            go_wp2_with fail
            go_roundw
            case rel => exact ⟨k + 1, by omega, by go_num, HN.out⟩
            case measure => simp [intOf]; omega
        · have hkl1 : (keep.length : Int) ≤ (k : Int) := by omega
          have HKL := Lib.hid (show keep[k]? = none from List.getElem?_eq_none (by omega))
          clear hkl
          have HN := Lib.hid (HIW.out.skip HZ.out (by unfold Bk.crash1; rw [if_neg HNE.out, if_neg (by rw [List.getD_eq_getElem?_getD, HKL.out]; simp)]))
          go_wp2_with fail
          go_roundw
          case rel => exact ⟨k + 1, by omega, by go_num, HN.out⟩
          case measure => simp [intOf]; omega
    · obtain rfl : k = d.waiting.length := by omega
      have hpf : wr.frozen? ⟨p, 3, none⟩ = false := hi.1.box.free 3 _ rfl
      have HBX := Lib.hid hi.1.box
      clear hi hlt
      go_wp2_with fail
      go_returns
      refine ⟨⟨_, rfl⟩, ?_, ?_⟩
      · exact HI.out.1.noWait (grownBy_set (World.grownBy.refl _ _) _ _) (HBX.out.put 3 _) rfl rfl rfl rfl
      · exact HI.out.2.1.same (Beside.of_grown (grownBy_set (World.grownBy.refl _ _) _ _) (HI.out.1.inF _ mem_p))
end Go.Proofs.YtflbioiildndoaaGreatDoor

/- block: burns, Crash, Flush -/
namespace Go.Proofs.YtflbioiildndoaaGreatDoor
open Go.RowKit
set_option linter.unusedVariables false
set_option linter.unusedSimpArgs false

theorem DiskP.keepOut {F : Nat → Prop} {w : World} {p : Nat} {d : Bk.Disk} {lv wv kv : Value} {gs : List (Nat × Nat)} {hs : List (Int × Nat × Nat)} (h : DiskP F w p d lv wv kv gs hs) : ∀ k, kv.ownBlock = some k → k ≠ p ∧ ∀ g ∈ gs, g.1 ≠ k := by
  intro k hk
  have n1 := List.nodup_cons.1 h.nodup
  have n2 := List.nodup_append.1 n1.2
  have n3 := List.nodup_append.1 n2.2.1
  have n4 := List.nodup_append.1 n3.2.1
  have mk : k ∈ kv.ownBlock.toList := by simp [hk]
  refine ⟨fun e => n1.1 (e ▸ List.mem_append_right _ (List.mem_append_right _ (List.mem_append_left _ mk))), fun g hg e => ?_⟩
  exact n4.2.2 k mk g.1 (List.mem_append_left _ (List.mem_map_of_mem hg)) e.symm
theorem wrap64_is (n : Int) : wrap64 n = IntKind.i64.wrap n := by rw [IntKind.wrap_i64]; unfold wrap64; rfl
/-- without a fuse, the power off -/
def unfused (d : Bk.Disk) : Bk.Disk := { d with lit := false, after := 0, torn := 0, cut := 0, keep := [], off := true }
theorem unfused_ok {n : Nat} {d : Bk.Disk} (h : Bk.Ok n d) : Bk.Ok n (unfused d) := ⟨h.b, h.s, h.len, h.each, h.wait, h.many⟩
theorem blown_is (d : Bk.Disk) : Bk.crash (unfused d) d.keep d.torn d.cut = Bk.blown d := rfl
set_option maxRecDepth 100000 in
theorem burns_blow {F : Nat → Prop} {w : World} {p n : Nat} {d : Bk.Disk} (hd : DiskAt F w p d) (ho : Bk.Ok n d) (hb : Bk.blows d) :
    Calls Tryz.prog 48 #[.pointer (some ⟨p, 0, none⟩)] w fun e w' => e = .returned (.bool true) ∧ DiskAt F w' p (Bk.blown d) ∧ Beside F w w' := by
  obtain ⟨lv, wv, kv, gs, hs, hp⟩ := hd
  obtain ⟨hlit, haft⟩ := hb
  obtain ⟨ka, kc, ekv, hkl, hkm⟩ := hp.keep.slice
  subst ekv
  obtain ⟨m0, -, m2, m3, m4, m5, m6, m7, m8, m9, -⟩ := hp.box.eleven
  obtain ⟨f0, -, f2, f3, f4, f5, f6, f7, f8, f9, -⟩ := hp.box.elevenF
  rw [hlit] at m4
  rw [haft] at m5
  have HP := Lib.hid hp
  have HOK := Lib.hid ho
  have hplt := hp.box.lt
  clear hp ho hlit haft
  go_enter Tryz.func48, Tryz.ntmps48
  go_upto_region 4 with fail
  refine wp_name fun W hW => ?_
  have hG : w.grownBy W (some p) := by
    rw [hW]
    refine grown_trans ?_ (grown_alloc _ _ _)
    repeat (first | refine grownBy_set ?_ _ _ | exact World.grownBy.refl _ _)
  have hBX : BoxAt W p (cellsD (unfused d) lv wv (.slice none 0 0)) := by
    have h6 := (((((HP.out.box.put 4 (.bool false)).put 5 (.int .i64 0)).put 6 (.int .i64 0)).put 7 (.int .i64 0)).put 8 (.slice none 0 0)).put 9 (.bool true)
    have e6 : ((((((cellsD d lv wv (.slice ka d.keep.length kc)).set 4 (.bool false)).set 5 (.int .i64 0)).set 6 (.int .i64 0)).set 7 (.int .i64 0)).set 8 (.slice none 0 0)).set 9 (.bool true) = cellsD (unfused d) lv wv (.slice none 0 0) := by
      simp [cellsD, unfused]
    rw [e6] at h6
    rw [hW]
    exact h6.alloc _
  have HF := Lib.hid (show BoxAt W w.heap.size [.bool true, .int .i64 0, .int .i64 d.torn, .int .i64 d.cut, .slice ka d.keep.length kc] by rw [hW]; exact BoxAt.newAt _ _ (by simp) [_, _, _, _, _] _)
  have HPW := Lib.hid (HP.out.newKeep (d' := unfused d) hG hBX rfl rfl rfl (OwnR.nil _ _ _) (fun k hk => by cases hk))
  have HK := Lib.hid ((HP.out.keep.at eBool_ok).grownR hG (fun k hk e => (HP.out.keepOut k hk).1 (by cases e; rfl)))
  have HBS := Lib.hid (Beside.of_grown hG (HP.out.inF _ mem_p))
  clear hW hG hBX m0 m2 m3 m4 m5 m6 m7 m8 m9 f0 f2 f3 f4 f5 f6 f7 f8 f9
  obtain ⟨x0, x1, x2, x3, x4⟩ := HF.out.five
  go_wp2_with (go_at_call 77; (refine (crash_any HPW.out (unfused_ok HOK.out) ka kc d.keep HK.out (.inr HP.out.keepOut) _ _).mono ?_); (rintro e w2 ⟨⟨v2, rfl⟩, hd2, hb2⟩))
  go_ret
  exact ⟨rfl, ⟨_, _, _, _, _, hd2⟩, HBS.out.same hb2⟩
theorem burns_tick {F : Nat → Prop} {w : World} {p n : Nat} {d : Bk.Disk} (hd : DiskAt F w p d) (ho : Bk.Ok n d) (hb : ¬ Bk.blows d) :
    Calls Tryz.prog 48 #[.pointer (some ⟨p, 0, none⟩)] w fun e w' => e = .returned (.bool false) ∧ DiskAt F w' p (Bk.ticked d) ∧ Beside F w w' := by
  obtain ⟨lv, wv, kv, gs, hs, hp⟩ := hd
  obtain ⟨m0, -, m2, m3, m4, m5, m6, m7, m8, m9, m10⟩ := hp.box.eleven
  obtain ⟨f0, -, f2, f3, f4, f5, f6, f7, f8, f9, f10⟩ := hp.box.elevenF
  have HP := Lib.hid hp
  have HOK := Lib.hid ho
  have hplt := hp.box.lt
  have HB := Lib.hid hb
  clear hp ho hb
  cases hl : d.lit with
  | false =>
    rw [hl] at m4
    clear hl
    go_enter Tryz.func48, Tryz.ntmps48
    go_wp2_with fail
    go_ret
    simp only [wrap64_is]
    exact ⟨rfl, ⟨_, _, _, _, _, HP.out.rebox (grownBy_set (grownBy_set (World.grownBy.refl _ _) _ _) _ _) ((HP.out.box.put 5 (.int .i64 (IntKind.i64.wrap (d.after - 1)))).put 10 (.int .i64 (IntKind.i64.wrap (d.count + 1)))) rfl rfl rfl rfl⟩, Beside.of_grown (grownBy_set (grownBy_set (World.grownBy.refl _ _) _ _) _ _) (HP.out.inF _ mem_p)⟩
  | true =>
    have hne : (d.after == 0) = false := by have := HB.out; unfold Bk.blows at this; simp [hl] at this; simpa using this
    rw [hl] at m4
    clear hl
    go_enter Tryz.func48, Tryz.ntmps48
    go_wp2_with fail
    go_ret
    simp only [wrap64_is]
    exact ⟨rfl, ⟨_, _, _, _, _, HP.out.rebox (grownBy_set (grownBy_set (World.grownBy.refl _ _) _ _) _ _) ((HP.out.box.put 5 (.int .i64 (IntKind.i64.wrap (d.after - 1)))).put 10 (.int .i64 (IntKind.i64.wrap (d.count + 1)))) rfl rfl rfl rfl⟩, Beside.of_grown (grownBy_set (grownBy_set (World.grownBy.refl _ _) _ _) _ _) (HP.out.inF _ mem_p)⟩
end Go.Proofs.YtflbioiildndoaaGreatDoor
