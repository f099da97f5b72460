/- block: Right, check, on, cloned, and what only looks -/
import Derived.Test.YtflbioiildndoaaDoorDiskNew
import Derived.Test.YtflbioiildndoaaDoorSent
import Derived.Deep.DeepCutAuto
namespace Go.Proofs.YtflbioiildndoaaDoor
open Go.RowKit
set_option linter.unusedVariables false
set_option linter.unusedSimpArgs false

theorem BoxAt.eleven {w : World} {r : Nat} {v0 v1 v2 v3 v4 v5 v6 v7 v8 v9 v10 : Value} (h : BoxAt w r [v0, v1, v2, v3, v4, v5, v6, v7, v8, v9, v10]) :
    w.cell? ⟨r, 0, none⟩ = some v0 ∧ w.cell? ⟨r, 1, none⟩ = some v1 ∧ w.cell? ⟨r, 2, none⟩ = some v2 ∧ w.cell? ⟨r, 3, none⟩ = some v3 ∧ w.cell? ⟨r, 4, none⟩ = some v4 ∧ w.cell? ⟨r, 5, none⟩ = some v5 ∧ w.cell? ⟨r, 6, none⟩ = some v6 ∧ w.cell? ⟨r, 7, none⟩ = some v7 ∧ w.cell? ⟨r, 8, none⟩ = some v8 ∧ w.cell? ⟨r, 9, none⟩ = some v9 ∧ w.cell? ⟨r, 10, none⟩ = some v10 :=
  ⟨h.at 0 _ rfl, h.at 1 _ rfl, h.at 2 _ rfl, h.at 3 _ rfl, h.at 4 _ rfl, h.at 5 _ rfl, h.at 6 _ rfl, h.at 7 _ rfl, h.at 8 _ rfl, h.at 9 _ rfl, h.at 10 _ rfl⟩
theorem BoxAt.elevenF {w : World} {r : Nat} {v0 v1 v2 v3 v4 v5 v6 v7 v8 v9 v10 : Value} (h : BoxAt w r [v0, v1, v2, v3, v4, v5, v6, v7, v8, v9, v10]) :
    w.frozen? ⟨r, 0, none⟩ = false ∧ w.frozen? ⟨r, 1, none⟩ = false ∧ w.frozen? ⟨r, 2, none⟩ = false ∧ w.frozen? ⟨r, 3, none⟩ = false ∧ w.frozen? ⟨r, 4, none⟩ = false ∧ w.frozen? ⟨r, 5, none⟩ = false ∧ w.frozen? ⟨r, 6, none⟩ = false ∧ w.frozen? ⟨r, 7, none⟩ = false ∧ w.frozen? ⟨r, 8, none⟩ = false ∧ w.frozen? ⟨r, 9, none⟩ = false ∧ w.frozen? ⟨r, 10, none⟩ = false :=
  ⟨h.free 0 _ rfl, h.free 1 _ rfl, h.free 2 _ rfl, h.free 3 _ rfl, h.free 4 _ rfl, h.free 5 _ rfl, h.free 6 _ rfl, h.free 7 _ rfl, h.free 8 _ rfl, h.free 9 _ rfl, h.free 10 _ rfl⟩
def rightG (b s : Int) : Bool := decide (8 ≤ b) && (decide (b ≤ 256) && (decide (256 ≤ s) && decide (s ≤ 1024)))
theorem rightG_iff {b s : Int} : rightG b s = true ↔ 8 ≤ b ∧ b ≤ 256 ∧ 256 ≤ s ∧ s ≤ 1024 := by unfold rightG; simp
theorem rightG_no {b s : Int} : rightG b s = false ↔ ¬ (8 ≤ b ∧ b ≤ 256 ∧ 256 ≤ s ∧ s ≤ 1024) := by rw [← rightG_iff]; simp
set_option maxRecDepth 100000 in
theorem blockRight_is (b s : Int) (B : Bool) (hB : rightG b s = B) (w : World) :
    Calls Tryd.prog 15 #[.agg #[.int .i64 b, .int .i64 s]] w fun e w' => e = .returned (.bool B) ∧ Below w.heap.size w w' := by
  cases B with
  | true =>
    obtain ⟨h1, h2, h3, h4⟩ := rightG_iff.1 hB
    clear hB
    go_enter Tryd.func15, Tryd.ntmps15
    go_wp2_with fail
    go_ret
    exact ⟨by first | rfl | exact ret_bool (by simp; omega), by go_grown⟩
  | false =>
    have hn := rightG_no.1 hB
    clear hB
    by_cases h1 : 8 ≤ b
    · by_cases h2 : b ≤ 256
      · by_cases h3 : 256 ≤ s
        · have h4 : 1024 < s := by omega
          clear hn
          go_enter Tryd.func15, Tryd.ntmps15
          go_wp2_with fail
          go_ret
          exact ⟨by first | rfl | exact ret_bool (by simp; omega), by go_grown⟩
        · have h4 : s < 256 := by omega
          clear hn h3
          go_enter Tryd.func15, Tryd.ntmps15
          go_wp2_with fail
          go_ret
          exact ⟨by first | rfl | exact ret_bool (by simp; omega), by go_grown⟩
      · have h4 : 256 < b := by omega
        clear hn h2
        go_enter Tryd.func15, Tryd.ntmps15
        go_wp2_with fail
        go_ret
        exact ⟨by first | rfl | exact ret_bool (by simp; omega), by go_grown⟩
    · have h4 : b < 8 := by omega
      clear hn h1
      go_enter Tryd.func15, Tryd.ntmps15
      go_wp2_with fail
      go_ret
      exact ⟨by first | rfl | exact ret_bool (by simp; omega), by go_grown⟩

/-! ### check, on -/
theorem check_nil (op : ByteArray) (i : Int) (w : World) (A : Nat → Addr) (hs : Sents w A) :
    Calls Tryd.prog 66 #[.pointer none, .string op, .int .i64 i] w fun e w' => IsFault A w.heap.size [-1] 7 e w' ∧ Below w.heap.size w w' := by
  have g2 : w.cell? ⟨1, 0, none⟩ = some (.iface 171 (.pointer (some (A 7)))) := hs.cell 7 (by decide) (by decide)
  have HE := Lib.hid (sent_err (w := w) (A := A) (B := w.heap.size) 7 (by decide) (by decide))
  clear hs
  go_enter Tryd.func66, Tryd.ntmps66
  go_wp2_with (go_at_call 54; refine (faultNew_any _ 7 _ _ A w.heap.size HE.out (by decide) (Nat.le_refl _)).mono ?_; rintro e w' ⟨⟨v, rfl, hv⟩, hb⟩)
  go_ret
  exact ⟨⟨_, rfl, hv⟩, hb⟩
theorem check_in (p : Nat) (op : ByteArray) (i b : Int) (w : World) (h0 : w.cell? ⟨p, 0, none⟩ = some (.int .i64 b)) (h1 : 0 ≤ i) (h2 : i < b) :
    Calls Tryd.prog 66 #[.pointer (some ⟨p, 0, none⟩), .string op, .int .i64 i] w fun e w' => e = .returned .nilIface ∧ w = w' := by
  go_enter Tryd.func66, Tryd.ntmps66
  go_wp2_with fail
  go_ret
  exact ⟨rfl, rfl⟩
theorem check_out (p : Nat) (op : ByteArray) (i b : Int) (w : World) (h0 : w.cell? ⟨p, 0, none⟩ = some (.int .i64 b)) (h1 : i < 0 ∨ b ≤ i) (A : Nat → Addr) (hs : Sents w A) :
    Calls Tryd.prog 66 #[.pointer (some ⟨p, 0, none⟩), .string op, .int .i64 i] w fun e w' => IsFault A w.heap.size [max i (-1)] 2 e w' ∧ Below w.heap.size w w' := by
  have g2 : w.cell? ⟨0, 0, none⟩ = some (.iface 171 (.pointer (some (A 2)))) := hs.cell 2 (by decide) (by decide)
  have HE := Lib.hid (sent_err (w := w) (A := A) (B := w.heap.size) 2 (by decide) (by decide))
  clear hs
  by_cases hi : i < 0
  · clear h1
    go_enter Tryd.func66, Tryd.ntmps66
    go_wp2_with (go_at_call 67; refine (faultAt_any _ _ [] 2 _ _ A w.heap.size HE.out (by decide) (Nat.le_refl _)).mono ?_; rintro e w' ⟨⟨v, rfl, hv⟩, hb⟩)
    go_ret
    exact ⟨⟨_, rfl, hv⟩, hb⟩
  · have h2 : 0 ≤ i := by omega
    have h3 : b ≤ i := by omega
    clear h1 hi
    go_enter Tryd.func66, Tryd.ntmps66
    go_wp2_with (go_at_call 67; refine (faultAt_any _ _ [] 2 _ _ A w.heap.size HE.out (by decide) (Nat.le_refl _)).mono ?_; rintro e w' ⟨⟨v, rfl, hv⟩, hb⟩)
    go_ret
    exact ⟨⟨_, rfl, hv⟩, hb⟩
theorem on_ok (p : Nat) (op : ByteArray) (i b : Int) (w : World) (h0 : w.cell? ⟨p, 0, none⟩ = some (.int .i64 b)) (h1 : 0 ≤ i) (h2 : i < b) (h9 : w.cell? ⟨p, 9, none⟩ = some (.bool false)) :
    Calls Tryd.prog 57 #[.pointer (some ⟨p, 0, none⟩), .string op, .int .i64 i] w fun e w' => e = .returned .nilIface ∧ w = w' := by
  go_enter Tryd.func57, Tryd.ntmps57
  go_wp2_with (go_at_call 66; refine (check_in p _ i b _ h0 h1 h2).mono ?_; rintro e w' ⟨rfl, rfl⟩)
  go_ret
  exact ⟨rfl, rfl⟩
theorem on_off (p : Nat) (op : ByteArray) (i b : Int) (w : World) (h0 : w.cell? ⟨p, 0, none⟩ = some (.int .i64 b)) (h1 : 0 ≤ i) (h2 : i < b) (h9 : w.cell? ⟨p, 9, none⟩ = some (.bool true)) (A : Nat → Addr) (hs : Sents w A) :
    Calls Tryd.prog 57 #[.pointer (some ⟨p, 0, none⟩), .string op, .int .i64 i] w fun e w' => IsFault A w.heap.size [max i (-1)] 7 e w' ∧ Below w.heap.size w w' := by
  have g2 : w.cell? ⟨1, 0, none⟩ = some (.iface 171 (.pointer (some (A 7)))) := hs.cell 7 (by decide) (by decide)
  have HE := Lib.hid (sent_err (w := w) (A := A) (B := w.heap.size) 7 (by decide) (by decide))
  clear hs
  go_enter Tryd.func57, Tryd.ntmps57
  go_wp2_with (first
    | (go_at_call 66; refine (check_in p _ i b _ h0 h1 h2).mono ?_; rintro e w' ⟨rfl, rfl⟩)
    | (go_at_call 67; refine (faultAt_any _ _ [] 7 _ _ A w.heap.size HE.out (by decide) (Nat.le_refl _)).mono ?_; rintro e w' ⟨⟨v, rfl, hv⟩, hb⟩))
  go_ret
  exact ⟨⟨_, rfl, hv⟩, hb⟩
theorem on_out (p : Nat) (op : ByteArray) (i b : Int) (w : World) (h0 : w.cell? ⟨p, 0, none⟩ = some (.int .i64 b)) (h1 : i < 0 ∨ b ≤ i) (A : Nat → Addr) (hs : Sents w A) :
    Calls Tryd.prog 57 #[.pointer (some ⟨p, 0, none⟩), .string op, .int .i64 i] w fun e w' => IsFault A w.heap.size [max i (-1)] 2 e w' ∧ Below w.heap.size w w' := by
  have HS := Lib.hid hs
  have H1 := Lib.hid h1
  clear hs h1
  go_enter Tryd.func57, Tryd.ntmps57
  go_wp2_with (go_at_call 66; refine (check_out p _ i b _ h0 H1.out A HS.out).mono ?_; rintro e w' ⟨⟨v, rfl, hv⟩, hb⟩; obtain ⟨tv, xv, rfl⟩ := hv.iface (by decide))
  go_ret
  exact ⟨⟨_, rfl, hv⟩, hb⟩
theorem on_nil (op : ByteArray) (i : Int) (w : World) (A : Nat → Addr) (hs : Sents w A) :
    Calls Tryd.prog 57 #[.pointer none, .string op, .int .i64 i] w fun e w' => IsFault A w.heap.size [-1] 7 e w' ∧ Below w.heap.size w w' := by
  have HS := Lib.hid hs
  clear hs
  go_enter Tryd.func57, Tryd.ntmps57
  go_wp2_with (go_at_call 66; refine (check_nil _ i _ A HS.out).mono ?_; rintro e w' ⟨⟨v, rfl, hv⟩, hb⟩; obtain ⟨tv, xv, rfl⟩ := hv.iface (by decide))
  go_ret
  exact ⟨⟨_, rfl, hv⟩, hb⟩

/-! ### bytes in new memory -/
theorem setRow_own {w : World} {base g n cap : Nat} {l : List UInt8} (h : Own w base (.slice (some ⟨g, 0, none⟩) n cap) l) (hn : n = l.length) (m : List UInt8) (hm : m.length = l.length) :
    ∃ cur : Array Value, w.heap[g]? = some (.cells cur 5 (0, 0)) ∧ l.length ≤ cur.size ∧ cur.toList.take l.length = bytesV l ∧
      Own (w.setRow g ((bytesV m) ++ cur.toList.drop l.length).toArray) base (.slice (some ⟨g, 0, none⟩) n cap) m := by
  subst hn
  rcases h.2 with ⟨hv, h0⟩ | ⟨g2, cap2, cur, hv, h2, h3, h4, h5, h6, h7⟩
  · simp at hv
  · simp only [Value.slice.injEq, Option.some.injEq, Addr.mk.injEq, and_true, true_and] at hv
    obtain ⟨rfl, rfl⟩ := hv
    have hsz : l.length ≤ cur.size := by simp only [Nat.mul_one] at h6; omega
    refine ⟨cur, h3, hsz, by simpa [bytesV_length] using h7, ?_, .inr ⟨g, cap, _, by rw [hm], h2, setRow_heap w g cur _ _ _ h3, by rw [hm]; exact h4, h5, ?_, ?_⟩⟩
    · simp [bytesV_length]
    · simp only [List.size_toArray, List.length_append, bytesV_length, List.length_drop, Array.length_toList, hm, Nat.mul_one] at h6 ⊢
      omega
    · simp [bytesV_length]
end Go.Proofs.YtflbioiildndoaaDoor
