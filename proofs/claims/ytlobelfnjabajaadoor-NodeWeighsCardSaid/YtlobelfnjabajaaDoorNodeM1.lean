/- merged: NodeMath, Node1, Node2, Node3 -/
import Derived.Test.YtlobelfnjabajaaDoorFieldMath
import Derived.Test.YtlobelfnjabajaaDoorBase
import Derived.Test.YtlobelfnjabajaaDoorBox
import Derived.Test.YtlobelfnjabajaaDoorElem
/- the plain law of nodes: which nodes are right, where a key belongs, how many bytes there are -/
namespace Go.Proofs.YtlobelfnjabajaaDoor.Nd

/-- an entry -/
structure Ent where
  key : ByteArray
  value : ByteArray
  chain : Int
  size : Int
structure Node where
  leaf : Bool
  entries : List Ent
  keys : List ByteArray
  kids : List Int
def keyB (s : ByteArray) : Bool := decide (1 ≤ s.size) && decide (s.size ≤ 32)
def kidB (n : Int) : Bool := decide (2 ≤ n) && decide (n ≤ 255)
def entB (e : Ent) : Bool := keyB e.key && if e.chain = 0 then decide (e.size = 0) && decide (e.value.size ≤ 24) else kidB e.chain && (decide (e.value.size = 0) && (decide (25 ≤ e.size) && decide (e.size ≤ 4096)))
/-- is a text less than another one? -/
def less (a b : ByteArray) : Bool := Go.Op.bytesLess a.toList b.toList
theorem bytesLess_irrefl : ∀ l, Go.Op.bytesLess l l = false
  | [] => rfl
  | a :: l => by simp [Go.Op.bytesLess, bytesLess_irrefl l]
theorem bytesLess_or : ∀ x y, (Go.Op.bytesLess x y || x == y) = !Go.Op.bytesLess y x
  | [], [] => rfl
  | [], b :: y => by simp [Go.Op.bytesLess]
  | a :: x, [] => by simp [Go.Op.bytesLess]
  | a :: x, b :: y => by
    have ih := bytesLess_or x y
    simp only [Go.Op.bytesLess]
    by_cases h : a = b
    · subst h
      simpa using ih
    · have h1 : (a == b) = false := by simpa using h
      have h2 : (b == a) = false := by simpa using fun e => h e.symm
      have h3 : (a :: x == b :: y) = false := by simp [h]
      rw [h1, h2, h3]
      simp only [Bool.false_and, Bool.or_false]
      have h4 : a.toNat ≠ b.toNat := fun e => h (UInt8.toNat_inj.1 e)
      rw [Bool.eq_iff_iff]
      simp only [decide_eq_true_iff, Bool.not_eq_true', decide_eq_false_iff_not, UInt8.lt_iff_toNat_lt]
      omega
end Go.Proofs.YtlobelfnjabajaaDoor.Nd

/- nodes: Key, kid, entry, and the document's -/
namespace Go.Proofs.YtlobelfnjabajaaDoor
open Go.RowKit
set_option linter.unusedVariables false
set_option linter.unusedSimpArgs false

theorem keyB_ways (s : ByteArray) : (s.size = 0 ∧ Nd.keyB s = false) ∨ (1 ≤ s.size ∧ s.size ≤ 32 ∧ Nd.keyB s = true) ∨ (33 ≤ s.size ∧ Nd.keyB s = false) := by
  unfold Nd.keyB
  by_cases h1 : s.size = 0
  · left; simp [h1]
  · by_cases h2 : s.size ≤ 32
    · right; left; simp [h2]; omega
    · right; right; simp; omega
theorem nodeKey_is (s : ByteArray) (B : Bool) (hB : Nd.keyB s = B) (w : World) :
    Calls Tryd.prog 21 #[.string s] w fun e w' => e = .returned (.bool B) ∧ w = w' := by
  have hw := keyB_ways s
  rw [hB] at hw
  clear hB
  have hi : ∀ n : Nat, s.size = n → (s.size : Int) = n := fun n h => by rw [h]
  rcases hw with ⟨h1, rfl⟩ | ⟨h1, h2, rfl⟩ | ⟨h1, rfl⟩
  · have h3 : (s.size : Int) < 1 := by omega
    go_enter Tryd.func21, Tryd.ntmps21
    go_wp2
    go_ret
    exact ⟨by first | rfl | exact ret_bool (by simp; omega), rfl⟩
  · have h3 : (1 : Int) ≤ (s.size : Int) := by omega
    have h4 : (s.size : Int) ≤ 32 := by omega
    go_enter Tryd.func21, Tryd.ntmps21
    go_wp2
    go_ret
    exact ⟨by first | rfl | exact ret_bool (by simp; omega), rfl⟩
  · have h3 : (33 : Int) ≤ (s.size : Int) := by omega
    go_enter Tryd.func21, Tryd.ntmps21
    go_wp2
    go_ret
    exact ⟨by first | rfl | exact ret_bool (by simp; omega), rfl⟩
theorem refKey_is (s : ByteArray) (B : Bool) (hB : Nd.keyB s = B) (w : World) :
    Calls Tryd.prog 22 #[.string s] w fun e w' => e = .returned (.bool B) ∧ w = w' := by
  have hw := keyB_ways s
  rw [hB] at hw
  clear hB
  rcases hw with ⟨h1, rfl⟩ | ⟨h1, h2, rfl⟩ | ⟨h1, rfl⟩
  · have h3 : (s.size : Int) < 1 := by omega
    go_enter Tryd.func22, Tryd.ntmps22
    go_wp2
    go_ret
    exact ⟨by first | rfl | exact ret_bool (by simp; omega), rfl⟩
  · have h3 : (1 : Int) ≤ (s.size : Int) := by omega
    have h4 : (s.size : Int) ≤ 32 := by omega
    go_enter Tryd.func22, Tryd.ntmps22
    go_wp2
    go_ret
    exact ⟨by first | rfl | exact ret_bool (by simp; omega), rfl⟩
  · have h3 : (33 : Int) ≤ (s.size : Int) := by omega
    go_enter Tryd.func22, Tryd.ntmps22
    go_wp2
    go_ret
    exact ⟨by first | rfl | exact ret_bool (by simp; omega), rfl⟩
theorem kidB_ways (n : Int) : (n < 2 ∧ Nd.kidB n = false) ∨ (2 ≤ n ∧ n ≤ 255 ∧ Nd.kidB n = true) ∨ (2 ≤ n ∧ 255 < n ∧ Nd.kidB n = false) := by
  unfold Nd.kidB
  by_cases h1 : n < 2
  · left; simp; omega
  · by_cases h2 : n ≤ 255
    · right; left; simp; omega
    · right; right; simp; omega
theorem nodeKid_is (n : Int) (B : Bool) (hB : Nd.kidB n = B) (w : World) :
    Calls Tryd.prog 98 #[.int .i64 n] w fun e w' => e = .returned (.bool B) ∧ w = w' := by
  have hw := kidB_ways n
  rw [hB] at hw
  clear hB
  rcases hw with ⟨h1, rfl⟩ | ⟨h1, h2, rfl⟩ | ⟨h1, h2, rfl⟩
  all_goals
    go_enter Tryd.func98, Tryd.ntmps98
    go_wp2
    go_ret
    exact ⟨by first | rfl | exact ret_bool (by simp; omega), rfl⟩
theorem refKid_is (n : Int) (B : Bool) (hB : Nd.kidB n = B) (w : World) :
    Calls Tryd.prog 65 #[.int .i64 n] w fun e w' => e = .returned (.bool B) ∧ w = w' := by
  have hw := kidB_ways n
  rw [hB] at hw
  clear hB
  rcases hw with ⟨h1, rfl⟩ | ⟨h1, h2, rfl⟩ | ⟨h1, h2, rfl⟩
  all_goals
    go_enter Tryd.func65, Tryd.ntmps65
    go_wp2
    go_ret
    exact ⟨by first | rfl | exact ret_bool (by simp; omega), rfl⟩
end Go.Proofs.YtlobelfnjabajaaDoor

/- nodes: entry, and the document's; rows of entries and of texts -/
namespace Go.Proofs.YtlobelfnjabajaaDoor
open Go.RowKit
set_option linter.unusedVariables false
set_option linter.unusedSimpArgs false

theorem entB_ways (e : Nd.Ent) : (Nd.keyB e.key = false ∧ Nd.entB e = false) ∨
    (Nd.keyB e.key = true ∧ e.chain = 0 ∧ e.size = 0 ∧ e.value.size ≤ 24 ∧ Nd.entB e = true) ∨ (Nd.keyB e.key = true ∧ e.chain = 0 ∧ e.size = 0 ∧ 24 < e.value.size ∧ Nd.entB e = false) ∨ (Nd.keyB e.key = true ∧ e.chain = 0 ∧ e.size ≠ 0 ∧ Nd.entB e = false) ∨
    (Nd.keyB e.key = true ∧ e.chain ≠ 0 ∧ Nd.kidB e.chain = false ∧ Nd.entB e = false) ∨
    (Nd.keyB e.key = true ∧ e.chain ≠ 0 ∧ Nd.kidB e.chain = true ∧ e.value.size ≠ 0 ∧ Nd.entB e = false) ∨
    (Nd.keyB e.key = true ∧ e.chain ≠ 0 ∧ Nd.kidB e.chain = true ∧ e.value.size = 0 ∧ e.size < 25 ∧ Nd.entB e = false) ∨
    (Nd.keyB e.key = true ∧ e.chain ≠ 0 ∧ Nd.kidB e.chain = true ∧ e.value.size = 0 ∧ 25 ≤ e.size ∧ e.size ≤ 4096 ∧ Nd.entB e = true) ∨
    (Nd.keyB e.key = true ∧ e.chain ≠ 0 ∧ Nd.kidB e.chain = true ∧ e.value.size = 0 ∧ 25 ≤ e.size ∧ 4096 < e.size ∧ Nd.entB e = false) := by
  unfold Nd.entB
  cases Nd.keyB e.key
  · simp
  · cases Nd.kidB e.chain <;> by_cases h1 : e.chain = 0 <;> by_cases h2 : e.size = 0 <;> by_cases h3 : e.value.size ≤ 24 <;> by_cases h4 : e.value.size = 0 <;> by_cases h5 : 25 ≤ e.size <;> by_cases h6 : e.size ≤ 4096 <;> simp [h1, h2, h3, h4, h5, h6] <;> omega
theorem toList_empty (s : ByteArray) (h : s.size = 0) : (s.toList == ([] : List UInt8)) = true := by
  rw [Go.ByteArray.toList_eq]
  have : s.data.toList.length = 0 := by rw [Array.length_toList]; exact h
  rw [List.eq_nil_of_length_eq_zero this]
  rfl
theorem toList_some (s : ByteArray) (h : s.size ≠ 0) : (s.toList == ([] : List UInt8)) = false := by
  rw [Go.ByteArray.toList_eq, beq_eq_false_iff_ne]
  intro e
  have : s.data.toList.length = 0 := by rw [e]; rfl
  rw [Array.length_toList] at this
  exact h this
set_option maxRecDepth 100000 in
set_option maxHeartbeats 2000000 in
theorem nodeEntry_is (e : Nd.Ent) (B : Bool) (hB : Nd.entB e = B) (w : World) :
    Calls Tryd.prog 95 #[.agg #[.string e.key, .string e.value, .int .i64 e.chain, .int .i64 e.size]] w fun e w' => e = .returned (.bool B) ∧ Below w.heap.size w w' := by
  have hw := entB_ways e
  rw [hB] at hw
  clear hB
  have he0 := toList_empty e.value
  have he1 := toList_some e.value
  obtain ⟨key, value, chain, size⟩ := e
  simp only at *
  have HE0 := Lib.hid he0
  have HE1 := Lib.hid he1
  clear he0 he1
  rcases hw with ⟨hk, rfl⟩ | ⟨hk, rfl, rfl, h3, rfl⟩ | ⟨hk, rfl, rfl, h3, rfl⟩ | ⟨hk, rfl, h2, rfl⟩ | ⟨hk, h1, hkid, rfl⟩ | ⟨hk, h1, hkid, h3, rfl⟩ | ⟨hk, h1, hkid, h3, h4, rfl⟩ | ⟨hk, h1, hkid, h3, h4, h5, rfl⟩ | ⟨hk, h1, hkid, h3, h4, h5, rfl⟩
  · have HK := Lib.hid hk
    clear hk
    go_enter Tryd.func95, Tryd.ntmps95
    go_wp2_with (go_at_call 21; (refine (nodeKey_is _ _ HK.out _).mono ?_); (rintro e w1 ⟨rfl, rfl⟩))
    go_ret
    exact ⟨rfl, by go_grown⟩
  · have HK := Lib.hid hk
    have h3i : (value.size : Int) ≤ 24 := by omega
    clear hk
    go_enter Tryd.func95, Tryd.ntmps95
    go_wp2_with (go_at_call 21; (refine (nodeKey_is _ _ HK.out _).mono ?_); (rintro e w1 ⟨rfl, rfl⟩))
    go_ret
    exact ⟨by first | rfl | exact ret_bool (by simp; omega), by go_grown⟩
  · have HK := Lib.hid hk
    have h3i : 24 < (value.size : Int) := by omega
    clear hk
    go_enter Tryd.func95, Tryd.ntmps95
    go_wp2_with (go_at_call 21; (refine (nodeKey_is _ _ HK.out _).mono ?_); (rintro e w1 ⟨rfl, rfl⟩))
    go_ret
    exact ⟨by first | rfl | exact ret_bool (by simp; omega), by go_grown⟩
  · have HK := Lib.hid hk
    have h2b : (size == 0) = false := by simpa using h2
    clear hk
    go_enter Tryd.func95, Tryd.ntmps95
    go_wp2_with (go_at_call 21; (refine (nodeKey_is _ _ HK.out _).mono ?_); (rintro e w1 ⟨rfl, rfl⟩))
    go_ret
    exact ⟨by first | rfl | exact ret_bool (by simp; omega), by go_grown⟩
  all_goals
    have HK := Lib.hid hk
    have HKID := Lib.hid hkid
    have h1b : (chain == 0) = false := by simpa using h1
    clear hk hkid
    try have h3v : (value.toList == ([] : List UInt8)) = true := HE0.out h3
    try have h3v : (value.toList == ([] : List UInt8)) = false := HE1.out h3
    go_enter Tryd.func95, Tryd.ntmps95
    go_wp2_with (first
      | (go_at_call 21; (refine (nodeKey_is _ _ HK.out _).mono ?_); (rintro e w1 ⟨rfl, rfl⟩))
      | (go_at_call 98; (refine (nodeKid_is _ _ HKID.out _).mono ?_); (rintro e w2 ⟨rfl, rfl⟩)))
    go_ret
    exact ⟨by first | rfl | exact ret_bool (by simp; omega), by go_grown⟩
end Go.Proofs.YtlobelfnjabajaaDoor

/- nodes: the document's entry; rows of entries and of texts -/
namespace Go.Proofs.YtlobelfnjabajaaDoor
open Go.RowKit
set_option linter.unusedVariables false
set_option linter.unusedSimpArgs false

set_option maxRecDepth 100000 in
set_option maxHeartbeats 2000000 in
theorem refEntry_is (e : Nd.Ent) (B : Bool) (hB : Nd.entB e = B) (w : World) :
    Calls Tryd.prog 64 #[.agg #[.string e.key, .string e.value, .int .i64 e.chain, .int .i64 e.size]] w fun e w' => e = .returned (.bool B) ∧ Below w.heap.size w w' := by
  have hw := entB_ways e
  rw [hB] at hw
  clear hB
  obtain ⟨key, value, chain, size⟩ := e
  simp only at *
  have hvs : 0 ≤ (value.size : Int) := by omega
  rcases hw with ⟨hk, rfl⟩ | ⟨hk, rfl, rfl, h3, rfl⟩ | ⟨hk, rfl, rfl, h3, rfl⟩ | ⟨hk, rfl, h2, rfl⟩ | ⟨hk, h1, hkid, rfl⟩ | ⟨hk, h1, hkid, h3, rfl⟩ | ⟨hk, h1, hkid, h3, h4, rfl⟩ | ⟨hk, h1, hkid, h3, h4, h5, rfl⟩ | ⟨hk, h1, hkid, h3, h4, h5, rfl⟩
  · have HK := Lib.hid hk
    clear hk
    by_cases h1 : chain = 0
    · subst h1
      go_enter Tryd.func64, Tryd.ntmps64
      go_wp2_with (go_at_call 22; (refine (refKey_is _ _ HK.out _).mono ?_); (rintro e w1 ⟨rfl, rfl⟩))
      go_ret
      exact ⟨rfl, by go_grown⟩
    · have h1b : (chain == 0) = false := by simpa using h1
      clear h1
      go_enter Tryd.func64, Tryd.ntmps64
      go_wp2_with (go_at_call 22; (refine (refKey_is _ _ HK.out _).mono ?_); (rintro e w1 ⟨rfl, rfl⟩))
      go_ret
      exact ⟨rfl, by go_grown⟩
  · have HK := Lib.hid hk
    have h3i : (value.size : Int) ≤ 24 := by omega
    clear hk
    go_enter Tryd.func64, Tryd.ntmps64
    go_wp2_with (go_at_call 22; (refine (refKey_is _ _ HK.out _).mono ?_); (rintro e w1 ⟨rfl, rfl⟩))
    go_ret
    exact ⟨by first | rfl | exact ret_bool (by simp; omega), by go_grown⟩
  · have HK := Lib.hid hk
    have h3i : 24 < (value.size : Int) := by omega
    clear hk
    go_enter Tryd.func64, Tryd.ntmps64
    go_wp2_with (go_at_call 22; (refine (refKey_is _ _ HK.out _).mono ?_); (rintro e w1 ⟨rfl, rfl⟩))
    go_ret
    exact ⟨by first | rfl | exact ret_bool (by simp; omega), by go_grown⟩
  · have HK := Lib.hid hk
    have h2b : (size == 0) = false := by simpa using h2
    clear hk
    by_cases h3 : value.size ≤ 24
    · have h3i : (value.size : Int) ≤ 24 := by omega
      go_enter Tryd.func64, Tryd.ntmps64
      go_wp2_with (go_at_call 22; (refine (refKey_is _ _ HK.out _).mono ?_); (rintro e w1 ⟨rfl, rfl⟩))
      go_ret
      exact ⟨by first | rfl | exact ret_bool (by simp; omega), by go_grown⟩
    · have h3i : 24 < (value.size : Int) := by omega
      go_enter Tryd.func64, Tryd.ntmps64
      go_wp2_with (go_at_call 22; (refine (refKey_is _ _ HK.out _).mono ?_); (rintro e w1 ⟨rfl, rfl⟩))
      go_ret
      exact ⟨by first | rfl | exact ret_bool (by simp; omega), by go_grown⟩
  all_goals
    have HK := Lib.hid hk
    have HKID := Lib.hid hkid
    have h1b : (chain == 0) = false := by simpa using h1
    clear hk hkid
    try have h3b : ((value.size : Int) == 0) = true := by simp; omega
    try have h3b : ((value.size : Int) == 0) = false := by simp; omega
    go_enter Tryd.func64, Tryd.ntmps64
    go_wp2_with (first
      | (go_at_call 22; (refine (refKey_is _ _ HK.out _).mono ?_); (rintro e w1 ⟨rfl, rfl⟩))
      | (go_at_call 65; (refine (refKid_is _ _ HKID.out _).mono ?_); (rintro e w2 ⟨rfl, rfl⟩)))
    go_ret
    exact ⟨by first | rfl | exact ret_bool (by simp; omega), by go_grown⟩
/-! ### rows -/
abbrev eEnt : Elem Nd.Ent := ⟨22, 44, 4, 48, .agg #[.string ⟨#[]⟩, .string ⟨#[]⟩, .int .i64 0, .int .i64 0], fun e => [.string e.key, .string e.value, .int .i64 e.chain, .int .i64 e.size]⟩
theorem infoEnt : (Tryd.prog.info? 44).map (fun i => (i.zero, i.size, i.bytes)) = some (some (.agg #[.string ⟨#[]⟩, .string ⟨#[]⟩, .int .i64 0, .int .i64 0]), 4, 48) := by kernel_rfl
theorem eEnt_ok : eEnt.Ok where
  len _ := rfl
  one x u hu := by simp at hu; rcases hu with rfl | rfl | rfl | rfl <;> rfl
  und := Tryd.underlying22
  info := infoEnt
  zs := rfl
abbrev eStr : Elem ByteArray := ⟨23, 9, 1, 16, .string ⟨#[]⟩, fun s => [.string s]⟩
theorem infoStr : (Tryd.prog.info? 9).map (fun i => (i.zero, i.size, i.bytes)) = some (some (.string ⟨#[]⟩), 1, 16) := by kernel_rfl
theorem eStr_ok : eStr.Ok where
  len _ := rfl
  one x u hu := by simp at hu; subst hu; rfl
  und := Tryd.underlying23
  info := infoStr
  zs := rfl
end Go.Proofs.YtlobelfnjabajaaDoor
