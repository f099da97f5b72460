/- a space: what each of its blocks is; the walks of package space -/
import Derived.Test.YtlkpdehajkffaaaDoorInts
import Derived.Test.YtlkpdehajkffaaaDoorSent
import Derived.Test.YtlkpdehajkffaaaDoorCode
namespace Go.Proofs.YtlkpdehajkffaaaDoor
open Go.RowKit

/-- the space at block p, its row at block g, both made from block B on: what each of its blocks is (0 free, 1 lasting, 2 fresh, 3 leaving) -/
structure SpaceAt (w : World) (B p g : Nat) (l : List Int) : Prop where
  ptr : w.heap[p]? = some (.cells #[.slice (some ⟨g, 0, none⟩) l.length l.length] 56 (0, 0))
  row : OwnI w B (.slice (some ⟨g, 0, none⟩) l.length l.length) l
  ne : p ≠ g
  hp : B ≤ p
  len : l.length ≤ 256

theorem SpaceAt.head {w : World} {B p g : Nat} {l : List Int} (h : SpaceAt w B p g l) : w.cell? ⟨p, 0, none⟩ = some (.slice (some ⟨g, 0, none⟩) l.length l.length) :=
  cell_of_row w p 0 _ _ (0, 0) h.ptr
theorem SpaceAt.hg {w : World} {B p g : Nat} {l : List Int} (h : SpaceAt w B p g l) : B ≤ g := (h.row.lt g rfl).1
theorem SpaceAt.lt {w : World} {B p g : Nat} {l : List Int} (h : SpaceAt w B p g l) : p < w.heap.size ∧ g < w.heap.size := ⟨heap_lt h.ptr, (h.row.lt g rfl).2⟩
theorem SpaceAt.cell {w : World} {B p g : Nat} {l : List Int} (h : SpaceAt w B p g l) {k : Nat} {x : Int} (hx : l[k]? = some x) : w.cell? ⟨g, k, none⟩ = some (.int .i64 x) := h.row.cell rfl hx
theorem SpaceAt.free {w : World} {B p g : Nat} {l : List Int} (h : SpaceAt w B p g l) (k : Nat) : w.frozen? ⟨g, k, none⟩ = false := h.row.free rfl k
theorem SpaceAt.below {w w' : World} {B p g : Nat} {l : List Int} (h : SpaceAt w B p g l) (hb : Below w.heap.size w w') : SpaceAt w' B p g l :=
  ⟨by rw [hb.block _ h.lt.1]; exact h.ptr, h.row.below hb (Nat.le_refl _), h.ne, h.hp, h.len⟩
theorem SpaceAt.drew {w : World} {B p g : Nat} {l : List Int} (h : SpaceAt w B p g l) : SpaceAt w.drew B p g l := ⟨h.ptr, h.row, h.ne, h.hp, h.len⟩
theorem SpaceAt.mono {w : World} {B B' p g : Nat} {l : List Int} (h : SpaceAt w B p g l) (hB : B' ≤ B) : SpaceAt w B' p g l :=
  ⟨h.ptr, h.row.mono hB, h.ne, Nat.le_trans hB h.hp, h.len⟩
theorem SpaceAt.set {w : World} {B p g : Nat} {l : List Int} (h : SpaceAt w B p g l) (k : Nat) (x : Int) : SpaceAt (w.setCell ⟨g, k, none⟩ (.int .i64 x)) B p g (l.set k x) := by
  refine ⟨?_, ?_, h.ne, h.hp, by rw [List.length_set]; exact h.len⟩
  · rw [Below.heap_setCell _ _ _ _ h.ne, List.length_set]
    exact h.ptr
  · rw [List.length_set]
    exact h.row.set rfl k x

/-- what New leaves -/
def fresh0 (n : Nat) : List Int := ((List.replicate n (0 : Int)).set 0 1).set 1 1

def NewOk (B n : Nat) (e : Ending) (w' : World) : Prop := ∃ p g, e = .returned (.tuple #[.pointer (some ⟨p, 0, none⟩), .nilIface]) ∧ SpaceAt w' B p g (fresh0 n)

theorem new_ok (n : Nat) (h1 : 8 ≤ n) (h2 : n ≤ 256) (w : World) :
    Calls Tryd.prog 9 #[.int .i64 (n : Int)] w fun e w' => NewOk w.heap.size n e w' ∧ Below w.heap.size w w' := by
  go_enter Tryd.func9, Tryd.ntmps9
  go_wp2_with (at_make; refine wpList_make_ints rfl _ _ rfl n _ _ rfl rfl rfl rfl (by omega) ?_)
  intro w1 hown hgrow
  have hbel := (Below.refl w.heap.size w).grown hgrow (Nat.le_refl _) (by intro k hk; cases hk)
  have HS : SpaceAt (w1.alloc (.cells #[.slice (some ⟨w.heap.size, 0, none⟩) n n] 56)) w.heap.size w1.heap.size w.heap.size (List.replicate n 0) := by
    have hlt := (hown.lt w.heap.size rfl).2
    refine ⟨by rw [heap_alloc_new, List.length_replicate], by rw [List.length_replicate]; exact hown.alloc _, by omega, by omega, by simp; omega⟩
  have hb2 := hbel.alloc hbel.size (.cells #[.slice (some ⟨w.heap.size, 0, none⟩) n n] 56)
  go_wp2
  clear hown hgrow
  have c0 := HS.cell (k := 0) (x := 0) (by rw [List.getElem?_replicate, if_pos (by omega)])
  have c1 := HS.cell (k := 1) (x := 0) (by rw [List.getElem?_replicate, if_pos (by omega)])
  have f0 := HS.free 0
  have f1 := HS.free 1
  have hh := HS.head
  rw [List.length_replicate] at hh
  have HF := Lib.hid ((HS.set 0 1).set 1 1)
  have HB := Lib.hid ((hb2.setCell (p := ⟨w.heap.size, 0, none⟩) (Nat.le_refl _) (.int .i64 1)).setCell (p := ⟨w.heap.size, 1, none⟩) (Nat.le_refl _) (.int .i64 1))
  clear HS hb2 hbel
  go_region
  all_goals
    go_wp2
    go_ret2
    exact ⟨⟨_, _, rfl, HF.out.drew⟩, HB.out.drew⟩

theorem new_bad (n : Int) (h : n < 8 ∨ 256 < n) (w : World) (A : Nat → Addr) (hs : Sents w A) :
    Calls Tryd.prog 9 #[.int .i64 n] w fun e w' => (∃ E, e = .returned (.tuple #[.pointer none, E]) ∧ ErrIs w' A w.heap.size [-1] 2 E) ∧ Below w.heap.size w w' := by
  have g2 : w.cell? ⟨0, 0, none⟩ = some (.iface 90 (.pointer (some (A 2)))) := hs.cell 2 (by decide) (by decide)
  have HE := Lib.hid (sent_err (w := w) (A := A) (B := w.heap.size) 2 (by decide) (by decide))
  clear hs
  go_enter Tryd.func9, Tryd.ntmps9
  go_wp2_with (go_at_call 27; refine (faultNew_any _ 2 _ _ A w.heap.size HE.out (by decide) (Nat.le_refl _)).mono ?_; rintro e w' ⟨⟨v, rfl, hv⟩, hb⟩)
  all_goals
    first
      | (go_ret2; exact ⟨⟨_, rfl, hv⟩, hb⟩)
      | (exfalso; omega)

/-- how many of the first k are free -/
def freeOf (l : List Int) (k : Nat) : Nat := (l.take k).countP (· == 0)
theorem freeOf_succ {l : List Int} {k : Nat} {x : Int} (h : l[k]? = some x) : freeOf l (k + 1) = freeOf l k + if x == 0 then 1 else 0 := by
  unfold freeOf
  rw [List.take_add_one, h, List.countP_append]
  simp [List.countP_cons]
theorem freeOf_le (l : List Int) (k : Nat) : freeOf l k ≤ k := by
  unfold freeOf
  exact Nat.le_trans List.countP_le_length (by rw [List.length_take]; omega)

theorem free_any {w : World} {B p g : Nat} {l : List Int} (hs : SpaceAt w B p g l) :
    Calls Tryd.prog 12 #[.pointer (some ⟨p, 0, none⟩)] w fun e w' => e = .returned (.int .i64 (freeOf l l.length : Nat)) ∧ w = w' := by
  have hh := hs.head
  have hlen := hs.len
  have HS := Lib.hid hs
  clear hs
  go_enter Tryd.func12, Tryd.ntmps12
  go_wp2
  go_loop [3, 13] (fun c i => ∃ k : Nat, k ≤ l.length ∧ i = .int .i64 k ∧ c = .int .i64 (freeOf l k : Nat)) (fun _ i => l.length - (intOf i).toNat)
  case atStart => exact ⟨0, by omega, rfl, rfl⟩
  case round =>
    obtain ⟨k, hk, rfl, rfl⟩ := hrel
    by_cases hlt : k < l.length
    · obtain ⟨x, hx⟩ := getElem?_some_of_lt hlt
      have hc := HS.out.cell hx
      have hf := freeOf_succ hx
      have hfl := freeOf_le l k
      generalize freeOf l k = a at *
      have HF := Lib.hid hf
      clear hf hx
      go_wp2
      all_goals
        go_round
        case rel => exact ⟨k + 1, by omega, by go_num, by rw [HF.out]; simp_all⟩
        case measure => simp [intOf]; omega
    · have hk2 : k = l.length := by omega
      subst hk2
      go_wp2
      go_ret
      exact ⟨rfl, rfl⟩

/-- those of the first k in use -/
def usedB (x : Int) : Bool := x == 1 || x == 2
def usedOf (l : List Int) (k : Nat) : List Int := ((List.range k).filter fun i => (l[i]?).elim false usedB).map fun (i : Nat) => (i : Int)
theorem usedOf_zero (l : List Int) : usedOf l 0 = [] := rfl
theorem usedOf_succ {l : List Int} {k : Nat} {x : Int} (h : l[k]? = some x) : usedOf l (k + 1) = usedOf l k ++ if usedB x then [(k : Int)] else [] := by
  unfold usedOf
  rw [List.range_succ, List.filter_append, List.map_append]
  congr 1
  cases hb : usedB x <;> simp [h, hb]
theorem usedOf_le (l : List Int) (k : Nat) : (usedOf l k).length ≤ k := by
  unfold usedOf
  rw [List.length_map]
  exact Nat.le_trans (List.length_filter_le _ _) (by simp)

def GivesInts (B : Nat) (l : List Int) (e : Ending) (w' : World) : Prop := ∃ v, e = .returned v ∧ OwnI w' B v l

set_option maxHeartbeats 1000000 in
theorem used_any {w : World} {B p g : Nat} {l : List Int} (hs : SpaceAt w B p g l) :
    Calls Tryd.prog 14 #[.pointer (some ⟨p, 0, none⟩)] w fun e w' => GivesInts w.heap.size (usedOf l l.length) e w' ∧ Below w.heap.size w w' := by
  have hh := hs.head
  have hlen := hs.len
  have hplt := hs.lt.1
  have HS := Lib.hid hs
  clear hs
  go_enter Tryd.func14, Tryd.ntmps14
  go_wp2
  go_loopw [3, 13] (fun c i wr => ∃ k : Nat, k ≤ l.length ∧ i = .int .i64 k ∧ OwnI wr w.heap.size c (usedOf l k) ∧ Below w.heap.size w wr) (fun _ i _ => l.length - (intOf i).toNat)
  case atStart => exact ⟨0, by omega, rfl, OwnI.nil _ _, Below.refl _ _⟩
  case round =>
    obtain ⟨k, hk, rfl, ho, hbr⟩ := hrel
    have HO := Lib.hid ho
    clear ho
    by_cases hlt : k < l.length
    · obtain ⟨x, hx⟩ := getElem?_some_of_lt hlt
      have hc := (HS.out.below hbr).cell hx
      have hul := usedOf_le l k
      have hsz := hbr.size
      have HU := Lib.hid (usedOf_succ hx)
      clear hx
      by_cases hu : usedB x = true
      · have HU2 := Lib.hid (show usedOf l (k + 1) = usedOf l k ++ [(k : Int)] by rw [HU.out, if_pos hu])
        have h12 : ((x == 1) || (x == 2)) = true := hu
        clear hu HU
        have hll : (usedOf l k).length + [(k : Int)].length ≤ 17592186044416 := by simp; omega
        go_wp2_with (at_builtin; refine wpList_append_ints rfl (.tmp 24) (.tmp 26) rfl w.heap.size _ (usedOf l k) rfl (HO.out.alloc _) _ [(k : Int)] rfl (one_int _ _ _) hll (by simp; omega) ?_)
        all_goals first | (exfalso; simp_all; done) | skip
        all_goals
          intro v2 w2 hown hgrow _
          have hb2 := (hbr.alloc hsz (.cells #[.int .i64 (k : Int)] 3)).grown hgrow (by simp; omega) (fun j hj => (HO.out.lt j hj).1)
          have HO3 := Lib.hid hown
          clear hgrow hown
          go_wp2
          go_roundw
          case rel => exact ⟨k + 1, by omega, by go_num, by rw [HU2.out]; exact HO3.out, hb2⟩
          case measure => simp [intOf]; omega
      · have HU2 := Lib.hid (show usedOf l (k + 1) = usedOf l k by rw [HU.out, if_neg hu, List.append_nil])
        have h1 : (x == 1) = false := by unfold usedB at hu; simp_all
        have h2 : (x == 2) = false := by unfold usedB at hu; simp_all
        clear hu HU
        go_wp2
        go_roundw
        case rel => exact ⟨k + 1, by omega, by go_num, by rw [HU2.out]; exact HO.out, hbr⟩
        case measure => simp [intOf]; omega
    · have hk2 : k = l.length := by omega
      subst hk2
      go_wp2
      go_ret
      exact ⟨⟨_, rfl, HO.out⟩, hbr⟩

/-- was a block taken since the last commit? -/
def freshS (l : List Int) (id : Int) : Bool := decide (0 ≤ id) && (l[id.toNat]?).elim false (· == 2)

theorem fresh_any {w : World} {B p g : Nat} {l : List Int} (hs : SpaceAt w B p g l) (id : Int) :
    Calls Tryd.prog 17 #[.pointer (some ⟨p, 0, none⟩), .int .i64 id] w fun e w' => e = .returned (.bool (freshS l id)) ∧ w = w' := by
  have hh := hs.head
  have hlen := hs.len
  by_cases h0 : 0 ≤ id
  · obtain ⟨k, rfl⟩ : ∃ k : Nat, id = k := ⟨id.toNat, by omega⟩
    clear h0
    by_cases hlt : k < l.length
    · obtain ⟨x, hx⟩ := getElem?_some_of_lt hlt
      have hc := hs.cell hx
      have HF := Lib.hid (show freshS l k = (x == 2) by unfold freshS; simp [hx])
      clear hx hs
      go_enter Tryd.func17, Tryd.ntmps17
      go_wp2
      go_ret
      exact ⟨ret_bool (by rw [HF.out] <;> simp_all), rfl⟩
    · have HF := Lib.hid (show freshS l k = false by unfold freshS; rw [Int.toNat_natCast, List.getElem?_eq_none (by omega)]; simp)
      clear hs
      go_enter Tryd.func17, Tryd.ntmps17
      go_wp2
      go_ret
      exact ⟨ret_bool (by rw [HF.out] <;> simp_all), rfl⟩
  · have HF := Lib.hid (show freshS l id = false by unfold freshS; simp [h0])
    clear hs
    go_enter Tryd.func17, Tryd.ntmps17
    go_wp2
    go_ret
    exact ⟨ret_bool (by rw [HF.out]), rfl⟩

def TookOk (w : World) (B p g : Nat) (l : List Int) (k : Nat) (e : Ending) (w' : World) : Prop :=
  e = .returned (.tuple #[.int .i64 (k : Int), .nilIface]) ∧ SpaceAt w' B p g (l.set k 2) ∧ w.grownBy w' (some g)

/-- the first free one -/
theorem take_ok {w : World} {B p g : Nat} {l : List Int} (hs : SpaceAt w B p g l) (m : Nat) (hm : l[m]? = some 0) (hbefore : ∀ j : Nat, j < m → l[j]? ≠ some 0) :
    Calls Tryd.prog 19 #[.pointer (some ⟨p, 0, none⟩)] w (TookOk w B p g l m) := by
  have hh := hs.head
  have hlen := hs.len
  have hml : m < l.length := (List.getElem?_eq_some_iff.1 hm).1
  have HS := Lib.hid hs
  have HM := Lib.hid hm
  have HB := Lib.hid hbefore
  clear hs hm hbefore
  go_enter Tryd.func19, Tryd.ntmps19
  go_wp2
  go_loop [15] (fun i => ∃ k : Nat, k ≤ m ∧ i = .int .i64 k) (fun i => m + 1 - (intOf i).toNat)
  case atStart => exact ⟨0, by omega, rfl⟩
  case round =>
    obtain ⟨k, hk, rfl⟩ := hrel
    have hlt : k < l.length := by omega
    obtain ⟨x, hx⟩ := getElem?_some_of_lt hlt
    have hc := HS.out.cell hx
    have hfr := HS.out.free k
    by_cases he : k = m
    · subst he
      have hx0 : x = 0 := by have := HM.out; rw [hx] at this; simpa using this
      subst hx0
      clear hx
      go_wp2
      go_ret2
      exact ⟨rfl, HS.out.set _ _, grownBy_set (World.grownBy.refl w (some g)) _ _⟩
    · have hx0 : (x == 0) = false := by
        have := HB.out k (by omega)
        rw [hx] at this
        simpa using this
      clear hx
      go_wp2
      go_round
      case rel => exact ⟨k + 1, by omega, by go_num⟩
      case measure => simp [intOf]; omega

def TookNot (w : World) (A : Nat → Addr) (k : Nat) (e : Ending) (w' : World) : Prop := ∃ E, e = .returned (.tuple #[.int .i64 0, E]) ∧ ErrIs w' A w.heap.size [-1] k E ∧ Below w.heap.size w w'

theorem take_full {w : World} {B p g : Nat} {l : List Int} (hs : SpaceAt w B p g l) (hn : ∀ j : Nat, l[j]? ≠ some 0) (A : Nat → Addr) (hsent : Sents w A) :
    Calls Tryd.prog 19 #[.pointer (some ⟨p, 0, none⟩)] w (TookNot w A 3) := by
  have hh := hs.head
  have hlen := hs.len
  have HS := Lib.hid hs
  have HB := Lib.hid hn
  have g3 : w.cell? ⟨3, 0, none⟩ = some (.iface 90 (.pointer (some (A 3)))) := hsent.cell 3 (by decide) (by decide)
  have HE := Lib.hid (sent_err (w := w) (A := A) (B := w.heap.size) 3 (by decide) (by decide))
  clear hs hn hsent
  go_enter Tryd.func19, Tryd.ntmps19
  go_wp2
  go_loop [15] (fun i => ∃ k : Nat, k ≤ l.length ∧ i = .int .i64 k) (fun i => l.length - (intOf i).toNat)
  case atStart => exact ⟨0, by omega, rfl⟩
  case round =>
    obtain ⟨k, hk, rfl⟩ := hrel
    by_cases hlt : k < l.length
    · obtain ⟨x, hx⟩ := getElem?_some_of_lt hlt
      have hc := HS.out.cell hx
      have hx0 : (x == 0) = false := by
        have := HB.out k
        rw [hx] at this
        simpa using this
      clear hx
      go_wp2
      go_round
      case rel => exact ⟨k + 1, by omega, by go_num⟩
      case measure => simp [intOf]; omega
    · have hk2 : k = l.length := by omega
      subst hk2
      go_wp2_with (go_at_call 27; refine (faultNew_any _ 3 _ _ A w.heap.size HE.out (by decide) (Nat.le_refl _)).mono ?_; rintro e w' ⟨⟨v, rfl, hv⟩, hb⟩)
      go_ret2
      exact ⟨_, rfl, hv, hb⟩
theorem take_nil (w : World) (A : Nat → Addr) (hsent : Sents w A) :
    Calls Tryd.prog 19 #[.pointer none] w (TookNot w A 7) := by
  have g7 : w.cell? ⟨2, 0, none⟩ = some (.iface 90 (.pointer (some (A 7)))) := hsent.cell 7 (by decide) (by decide)
  have HE := Lib.hid (sent_err (w := w) (A := A) (B := w.heap.size) 7 (by decide) (by decide))
  clear hsent
  go_enter Tryd.func19, Tryd.ntmps19
  go_wp2_with (go_at_call 27; refine (faultNew_any _ 7 _ _ A w.heap.size HE.out (by decide) (Nat.le_refl _)).mono ?_; rintro e w' ⟨⟨v, rfl, hv⟩, hb⟩)
  go_ret2
  exact ⟨_, rfl, hv, hb⟩

def inS (l : List Int) (id : Int) : Bool := decide (2 ≤ id) && decide (id < (l.length : Int))
def Told (A : Nat → Addr) (B : Nat) (k : Nat) (e : Ending) (w' : World) : Prop := ∃ v pages, e = .returned v ∧ ErrIs w' A B pages k v

theorem check_in {w : World} {B p g : Nat} {l : List Int} (hs : SpaceAt w B p g l) (op : ByteArray) (id : Int) (h : inS l id = true) :
    Calls Tryd.prog 34 #[.pointer (some ⟨p, 0, none⟩), .string op, .int .i64 id] w fun e w' => e = .returned .nilIface ∧ w = w' := by
  have hh := hs.head
  have hlen := hs.len
  clear hs
  obtain ⟨h2, h3⟩ : 2 ≤ id ∧ id < (l.length : Int) := by unfold inS at h; simpa using h
  clear h
  go_enter Tryd.func34, Tryd.ntmps34
  go_wp2
  go_ret
  exact ⟨rfl, rfl⟩
theorem check_out {w : World} {B p g : Nat} {l : List Int} (hs : SpaceAt w B p g l) (op : ByteArray) (id : Int) (h : inS l id = false) (A : Nat → Addr) (hsent : Sents w A) :
    Calls Tryd.prog 34 #[.pointer (some ⟨p, 0, none⟩), .string op, .int .i64 id] w fun e w' => IsFault A w.heap.size [max id (-1)] 2 e w' ∧ Below w.heap.size w w' := by
  have hh := hs.head
  have hlen := hs.len
  have g2 : w.cell? ⟨0, 0, none⟩ = some (.iface 90 (.pointer (some (A 2)))) := hsent.cell 2 (by decide) (by decide)
  have HE := Lib.hid (sent_err (w := w) (A := A) (B := w.heap.size) 2 (by decide) (by decide))
  clear hs hsent
  have h2 : ¬ (2 ≤ id ∧ id < (l.length : Int)) := by unfold inS at h; simpa using h
  clear h
  go_enter Tryd.func34, Tryd.ntmps34
  by_cases h3 : id < 2
  all_goals
    go_wp2_with (go_at_call 35; refine (faultAt_any _ id _ 2 _ _ A w.heap.size HE.out (by decide) (Nat.le_refl _)).mono ?_; rintro e w' ⟨⟨v, rfl, hv⟩, hb⟩)
    go_ret
    exact ⟨⟨_, rfl, hv⟩, hb⟩
theorem check_nil (w : World) (op : ByteArray) (id : Int) (A : Nat → Addr) (hsent : Sents w A) :
    Calls Tryd.prog 34 #[.pointer none, .string op, .int .i64 id] w fun e w' => IsFault A w.heap.size [-1] 7 e w' ∧ Below w.heap.size w w' := by
  have g7 : w.cell? ⟨2, 0, none⟩ = some (.iface 90 (.pointer (some (A 7)))) := hsent.cell 7 (by decide) (by decide)
  have HE := Lib.hid (sent_err (w := w) (A := A) (B := w.heap.size) 7 (by decide) (by decide))
  clear hsent
  go_enter Tryd.func34, Tryd.ntmps34
  go_wp2_with (go_at_call 27; refine (faultNew_any _ 7 _ _ A w.heap.size HE.out (by decide) (Nat.le_refl _)).mono ?_; rintro e w' ⟨⟨v, rfl, hv⟩, hb⟩)
  go_ret
  exact ⟨⟨_, rfl, hv⟩, hb⟩

/-- what Give answers, and leaves -/
def giveC (l : List Int) (id : Int) : Nat := if inS l id then (l[id.toNat]?).elim 2 fun x => if usedB x then 0 else 1 else 2
def giveL (l : List Int) (id : Int) : List Int := if inS l id then (l[id.toNat]?).elim l fun x => if x = 2 then l.set id.toNat 0 else if x = 1 then l.set id.toNat 3 else l else l
/-- what Mark answers, and leaves -/
def markC (l : List Int) (id : Int) : Nat := if inS l id then (l[id.toNat]?).elim 2 fun x => if x = 0 then 0 else 1 else 2
def markL (l : List Int) (id : Int) : List Int := if inS l id then (l[id.toNat]?).elim l fun x => if x = 0 then l.set id.toNat 1 else l else l

def Did (w : World) (A : Nat → Addr) (B p g : Nat) (l : List Int) (k : Nat) (e : Ending) (w' : World) : Prop := Told A w.heap.size k e w' ∧ SpaceAt w' B p g l ∧ w.grownBy w' (some g)

set_option maxHeartbeats 1000000 in
theorem give_any {w : World} {B p g : Nat} {l : List Int} (hs : SpaceAt w B p g l) (id : Int) (A : Nat → Addr) (hsent : Sents w A) :
    Calls Tryd.prog 18 #[.pointer (some ⟨p, 0, none⟩), .int .i64 id] w (Did w A B p g (giveL l id) (giveC l id)) := by
  have HS := Lib.hid hs
  have HN := Lib.hid hsent
  have hh := hs.head
  have hlen := hs.len
  by_cases hin : inS l id = true
  · obtain ⟨h2, h3⟩ : 2 ≤ id ∧ id < (l.length : Int) := by unfold inS at hin; simpa using hin
    obtain ⟨k, rfl⟩ : ∃ k : Nat, id = k := ⟨id.toNat, by omega⟩
    obtain ⟨x, hx⟩ := getElem?_some_of_lt (show k < l.length by omega)
    have hc := hs.cell hx
    have hfr := hs.free k
    have g1 : w.cell? ⟨1, 0, none⟩ = some (.iface 90 (.pointer (some (A 1)))) := hsent.cell 1 (by decide) (by decide)
    have HE := Lib.hid (sent_err (w := w) (A := A) (B := w.heap.size) 1 (by decide) (by decide))
    have HI := Lib.hid hin
    have HC : Hid (giveC l k = if usedB x then 0 else 1) := Lib.hid (by unfold giveC; rw [if_pos hin, Int.toNat_natCast, hx]; rfl)
    have HL : Hid (giveL l k = if x = 2 then l.set k 0 else if x = 1 then l.set k 3 else l) := Lib.hid (by unfold giveL; rw [if_pos hin, Int.toNat_natCast, hx]; rfl)
    clear hs hsent hx hin
    by_cases hx2 : x = 2
    · subst hx2
      go_enter Tryd.func18, Tryd.ntmps18
      go_wp2_with (go_at_call 34; refine (check_in HS.out _ _ HI.out).mono ?_; rintro e w' ⟨rfl, rfl⟩)
      go_ret
      exact ⟨⟨_, [], rfl, by rw [HC.out]; exact ErrIs.nil _ _ _⟩, by rw [HL.out]; exact HS.out.set _ _, grownBy_set (World.grownBy.refl w (some g)) _ _⟩
    · by_cases hx1 : x = 1
      · subst hx1
        go_enter Tryd.func18, Tryd.ntmps18
        go_wp2_with (go_at_call 34; refine (check_in HS.out _ _ HI.out).mono ?_; rintro e w' ⟨rfl, rfl⟩)
        go_ret
        exact ⟨⟨_, [], rfl, by rw [HC.out]; exact ErrIs.nil _ _ _⟩, by rw [HL.out]; exact HS.out.set _ _, grownBy_set (World.grownBy.refl w (some g)) _ _⟩
      · have e1 : (x == 1) = false := by simp [hx1]
        have e2 : (x == 2) = false := by simp [hx2]
        have HC2 : Hid (giveC l k = 1) := Lib.hid (by rw [HC.out]; unfold usedB; rw [e1, e2]; rfl)
        have HL2 : Hid (giveL l k = l) := Lib.hid (by rw [HL.out, if_neg hx2, if_neg hx1])
        clear hx1 hx2 HC HL
        go_enter Tryd.func18, Tryd.ntmps18
        go_wp2_with (first | (go_at_call 34; refine (check_in HS.out _ _ HI.out).mono ?_; rintro e w' ⟨rfl, rfl⟩) | (go_at_call 35; refine (faultAt_any _ _ _ 1 _ _ A w.heap.size HE.out (by decide) (Nat.le_refl _)).mono ?_; rintro e w' ⟨⟨v, rfl, hv⟩, hb⟩))
        go_ret
        exact ⟨⟨_, _, rfl, by rw [HC2.out]; exact hv⟩, by rw [HL2.out]; exact HS.out.below hb, grown_of_below hb (Nat.le_refl _) _⟩
  · have hin' : inS l id = false := by simpa using hin
    have HI := Lib.hid hin'
    have HC : Hid (giveC l id = 2) := Lib.hid (by unfold giveC; rw [if_neg hin])
    have HL : Hid (giveL l id = l) := Lib.hid (by unfold giveL; rw [if_neg hin])
    clear hs hsent hin hin'
    go_enter Tryd.func18, Tryd.ntmps18
    go_wp2_with (go_at_call 34; refine (check_out HS.out _ _ HI.out A HN.out).mono ?_; rintro e w' ⟨⟨v, rfl, hv⟩, hb⟩; obtain ⟨tv, xv, rfl⟩ := hv.iface (by decide))
    go_ret
    exact ⟨⟨_, _, rfl, by rw [HC.out]; exact hv⟩, by rw [HL.out]; exact HS.out.below hb, grown_of_below hb (Nat.le_refl _) _⟩

theorem give_nil (w : World) (id : Int) (A : Nat → Addr) (hsent : Sents w A) :
    Calls Tryd.prog 18 #[.pointer none, .int .i64 id] w fun e w' => Told A w.heap.size 7 e w' ∧ Below w.heap.size w w' := by
  go_enter Tryd.func18, Tryd.ntmps18
  go_wp2_with (go_at_call 34; refine (check_nil _ _ _ A hsent).mono ?_; rintro e w' ⟨⟨v, rfl, hv⟩, hb⟩; obtain ⟨tv, xv, rfl⟩ := hv.iface (by decide))
  go_ret
  exact ⟨⟨_, _, rfl, hv⟩, hb⟩
theorem mark_nil (w : World) (id : Int) (A : Nat → Addr) (hsent : Sents w A) :
    Calls Tryd.prog 26 #[.pointer none, .int .i64 id] w fun e w' => Told A w.heap.size 7 e w' ∧ Below w.heap.size w w' := by
  go_enter Tryd.func26, Tryd.ntmps26
  go_wp2_with (go_at_call 34; refine (check_nil _ _ _ A hsent).mono ?_; rintro e w' ⟨⟨v, rfl, hv⟩, hb⟩; obtain ⟨tv, xv, rfl⟩ := hv.iface (by decide))
  go_ret
  exact ⟨⟨_, _, rfl, hv⟩, hb⟩
theorem fresh_nil (w : World) (id : Int) :
    Calls Tryd.prog 17 #[.pointer none, .int .i64 id] w fun e w' => e = .returned (.bool false) ∧ w = w' := by
  go_enter Tryd.func17, Tryd.ntmps17
  go_wp2
  go_ret
  exact ⟨rfl, rfl⟩
theorem free_nil (w : World) :
    Calls Tryd.prog 12 #[.pointer none] w fun e w' => e = .returned (.int .i64 0) ∧ w = w' := by
  go_enter Tryd.func12, Tryd.ntmps12
  go_wp2
  go_ret
  exact ⟨rfl, rfl⟩
theorem used_nil (w : World) :
    Calls Tryd.prog 14 #[.pointer none] w fun e w' => e = .returned (.slice none 0 0) ∧ w = w' := by
  go_enter Tryd.func14, Tryd.ntmps14
  go_wp2
  go_ret
  exact ⟨rfl, rfl⟩

set_option maxHeartbeats 1000000 in
theorem mark_any {w : World} {B p g : Nat} {l : List Int} (hs : SpaceAt w B p g l) (id : Int) (A : Nat → Addr) (hsent : Sents w A) :
    Calls Tryd.prog 26 #[.pointer (some ⟨p, 0, none⟩), .int .i64 id] w (Did w A B p g (markL l id) (markC l id)) := by
  have HS := Lib.hid hs
  have HN := Lib.hid hsent
  have hh := hs.head
  have hlen := hs.len
  by_cases hin : inS l id = true
  · obtain ⟨h2, h3⟩ : 2 ≤ id ∧ id < (l.length : Int) := by unfold inS at hin; simpa using hin
    obtain ⟨k, rfl⟩ : ∃ k : Nat, id = k := ⟨id.toNat, by omega⟩
    obtain ⟨x, hx⟩ := getElem?_some_of_lt (show k < l.length by omega)
    have hc := hs.cell hx
    have hfr := hs.free k
    have g1 : w.cell? ⟨1, 0, none⟩ = some (.iface 90 (.pointer (some (A 1)))) := hsent.cell 1 (by decide) (by decide)
    have HE := Lib.hid (sent_err (w := w) (A := A) (B := w.heap.size) 1 (by decide) (by decide))
    have HI := Lib.hid hin
    have HC : Hid (markC l k = if x = 0 then 0 else 1) := Lib.hid (by unfold markC; rw [if_pos hin, Int.toNat_natCast, hx]; rfl)
    have HL : Hid (markL l k = if x = 0 then l.set k 1 else l) := Lib.hid (by unfold markL; rw [if_pos hin, Int.toNat_natCast, hx]; rfl)
    clear hs hsent hx hin
    by_cases hx2 : x = 0
    · subst hx2
      go_enter Tryd.func26, Tryd.ntmps26
      go_wp2_with (go_at_call 34; refine (check_in HS.out _ _ HI.out).mono ?_; rintro e w' ⟨rfl, rfl⟩)
      go_ret
      exact ⟨⟨_, [], rfl, by rw [HC.out]; exact ErrIs.nil _ _ _⟩, by rw [HL.out]; exact HS.out.set _ _, grownBy_set (World.grownBy.refl w (some g)) _ _⟩
    · have e2 : (x != 0) = true := by simp [hx2]
      have HC2 : Hid (markC l k = 1) := Lib.hid (by rw [HC.out, if_neg hx2])
      have HL2 : Hid (markL l k = l) := Lib.hid (by rw [HL.out, if_neg hx2])
      clear hx2 HC HL
      go_enter Tryd.func26, Tryd.ntmps26
      go_wp2_with (first | (go_at_call 34; refine (check_in HS.out _ _ HI.out).mono ?_; rintro e w' ⟨rfl, rfl⟩) | (go_at_call 35; refine (faultAt_any _ _ _ 1 _ _ A w.heap.size HE.out (by decide) (Nat.le_refl _)).mono ?_; rintro e w' ⟨⟨v, rfl, hv⟩, hb⟩))
      go_ret
      exact ⟨⟨_, _, rfl, by rw [HC2.out]; exact hv⟩, by rw [HL2.out]; exact HS.out.below hb, grown_of_below hb (Nat.le_refl _) _⟩
  · have hin' : inS l id = false := by simpa using hin
    have HI := Lib.hid hin'
    have HC : Hid (markC l id = 2) := Lib.hid (by unfold markC; rw [if_neg hin])
    have HL : Hid (markL l id = l) := Lib.hid (by unfold markL; rw [if_neg hin])
    clear hs hsent hin hin'
    go_enter Tryd.func26, Tryd.ntmps26
    go_wp2_with (go_at_call 34; refine (check_out HS.out _ _ HI.out A HN.out).mono ?_; rintro e w' ⟨⟨v, rfl, hv⟩, hb⟩; obtain ⟨tv, xv, rfl⟩ := hv.iface (by decide))
    go_ret
    exact ⟨⟨_, _, rfl, by rw [HC.out]; exact hv⟩, by rw [HL.out]; exact HS.out.below hb, grown_of_below hb (Nat.le_refl _) _⟩
end Go.Proofs.YtlkpdehajkffaaaDoor
