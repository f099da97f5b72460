/- merged: BlockMath, BlockLaw, FieldMath, PageMath -/
import Derived.Test.YtflbioiildndoaaGreatDoorQ2
/- the plain law of disks: what each call of a disk makes of it -/
namespace Go.Proofs.YtflbioiildndoaaGreatDoor.Bk

abbrev Blk := List UInt8
/-- a disk: lasting blocks, writes that wait, a fuse, whether it is off, how many calls were done -/
structure Disk where
  blocks : Nat
  size : Nat
  lasting : List Blk
  waiting : List (Nat × Blk)
  lit : Bool
  after : Int
  torn : Int
  cut : Int
  keep : List Bool
  off : Bool
  count : Int
def zeros (n : Nat) : Blk := List.replicate n 0
def new (b s : Nat) : Disk := ⟨b, s, List.replicate b (zeros s), [], false, 0, 0, 0, [], false, 0⟩
/-- the first bytes of one, and the others of another one -/
def tornB (old b : Blk) (cut : Int) : Blk := b.take cut.toNat ++ old.drop cut.toNat
def crash1 (keep : List Bool) (which cut : Int) (l : List Blk) (k : Nat) (x : Nat × Blk) : List Blk :=
  if (k : Int) = which then l.set x.1 (tornB (l.getD x.1 []) x.2 cut) else if keep.getD k false = true then l.set x.1 x.2 else l
/-- the lasting blocks behind the first k of what waits -/
def crashK (keep : List Bool) (which cut : Int) (q : List (Nat × Blk)) (l : List Blk) : Nat → List Blk
  | 0 => l
  | k + 1 => match q[k]? with | some x => crash1 keep which cut (crashK keep which cut q l k) k x | none => crashK keep which cut q l k
def allK (q : List (Nat × Blk)) (l : List Blk) : Nat → List Blk
  | 0 => l
  | k + 1 => match q[k]? with | some x => (allK q l k).set x.1 x.2 | none => allK q l k
/-- a block as it is read, by the first k of what waits -/
def readK (q : List (Nat × Blk)) (i : Nat) (base : Blk) : Nat → Blk
  | 0 => base
  | k + 1 => match q[k]? with | some x => if x.1 = i then x.2 else readK q i base k | none => readK q i base k
def lastB (d : Disk) (i : Nat) : Blk := d.lasting.getD i []
def read (d : Disk) (i : Nat) : Blk := readK d.waiting i (lastB d i) d.waiting.length
def crash (d : Disk) (keep : List Bool) (which cut : Int) : Disk := { d with lasting := crashK keep which cut d.waiting d.lasting d.waiting.length, waiting := [] }
def all (d : Disk) : Disk := { d with lasting := allK d.waiting d.lasting d.waiting.length, waiting := [] }
/-- a call is done, or the power fails -/
def blows (d : Disk) : Prop := d.lit = true ∧ d.after = 0
instance (d : Disk) : Decidable (blows d) := by unfold blows; infer_instance
def blown (d : Disk) : Disk := { crash d d.keep d.torn d.cut with lit := false, after := 0, torn := 0, cut := 0, keep := [], off := true }
def ticked (d : Disk) : Disk := { d with after := IntKind.i64.wrap (d.after - 1), count := IntKind.i64.wrap (d.count + 1) }
def burns (d : Disk) : Disk × Nat := if blows d then (blown d, 7) else (ticked d, 0)
def In (d : Disk) (i : Int) : Prop := 0 ≤ i ∧ i < d.blocks
instance (d : Disk) (i : Int) : Decidable (In d i) := by unfold In; infer_instance
def put (d : Disk) (i : Int) (b : Blk) : Disk × Nat :=
  if In d i then if d.off = true then (d, 7) else if b.length = d.size then burns { d with waiting := d.waiting ++ [(i.toNat, b)] } else (d, 1) else (d, 2)
def flush (d : Disk) : Disk × Nat := if d.off = true then (d, 7) else if blows d then (blown d, 7) else (all (ticked d), 0)
def arm (d : Disk) (after : Int) (keep : List Bool) (which cut : Int) : Disk × Nat :=
  if after < 0 then (d, 2) else ({ d with lit := true, after := after, torn := which, cut := cut, keep := keep }, 0)
def on (d : Disk) : Disk := { d with lit := false, after := 0, torn := 0, cut := 0, keep := [], off := false }
def corrupt (d : Disk) (i bit : Int) (mask : BitVec 32) : Disk × Nat :=
  if In d i ∧ 0 ≤ bit ∧ bit < 8 * d.size then ({ d with lasting := d.lasting.set i.toNat (changed (lastB d i.toNat) bit.toNat mask 32) }, 0) else (d, 2)

/-! ### what holds of each disk -/
structure Ok (n : Nat) (d : Disk) : Prop where
  b : 8 ≤ d.blocks ∧ d.blocks ≤ 256
  s : 256 ≤ d.size ∧ d.size ≤ 1024
  len : d.lasting.length = d.blocks
  each : ∀ (i : Nat) (x : Blk), d.lasting[i]? = some x → x.length = d.size
  wait : ∀ (i : Nat) (x : Nat × Blk), d.waiting[i]? = some x → x.1 < d.blocks ∧ x.2.length = d.size
  many : d.waiting.length ≤ n
theorem Ok.mono {n m : Nat} {d : Disk} (h : Ok n d) (hm : n ≤ m) : Ok m d := ⟨h.b, h.s, h.len, h.each, h.wait, Nat.le_trans h.many hm⟩
/-- lasting blocks of a number and a size -/
def Row (b s : Nat) (l : List Blk) : Prop := l.length = b ∧ ∀ (i : Nat) (x : Blk), l[i]? = some x → x.length = s
theorem Row.set {b s : Nat} {l : List Blk} (h : Row b s l) (i : Nat) {x : Blk} (hx : x.length = s) : Row b s (l.set i x) := by
  refine ⟨by simpa using h.1, fun j y hy => ?_⟩
  rw [List.getElem?_set] at hy
  split at hy
  · split at hy
    · obtain rfl : x = y := by simpa using hy
      exact hx
    · cases hy
  · exact h.2 j y hy
theorem Row.getD {b s : Nat} {l : List Blk} (h : Row b s l) {i : Nat} (hi : i < b) : (l.getD i []).length = s ∧ l[i]? = some (l.getD i []) := by
  have hl : i < l.length := by rw [h.1]; exact hi
  have e : l[i]? = some (l.getD i []) := by simp [hl]
  exact ⟨h.2 i _ e, e⟩
theorem tornB_length {old b : Blk} {cut : Int} (h : old.length = b.length) : (tornB old b cut).length = b.length := by
  unfold tornB
  rw [List.length_append, List.length_take, List.length_drop]
  omega
theorem crash1_row {b s : Nat} {l : List Blk} (h : Row b s l) (keep : List Bool) (which cut : Int) (k : Nat) {x : Nat × Blk} (hx : x.1 < b ∧ x.2.length = s) : Row b s (crash1 keep which cut l k x) := by
  unfold crash1
  split
  · refine h.set _ ?_
    rw [tornB_length (by rw [(h.getD hx.1).1, hx.2]), hx.2]
  · split
    · exact h.set _ hx.2
    · exact h
theorem crashK_row {b s : Nat} {l : List Blk} (h : Row b s l) (keep : List Bool) (which cut : Int) {q : List (Nat × Blk)} (hq : ∀ (i : Nat) (x : Nat × Blk), q[i]? = some x → x.1 < b ∧ x.2.length = s) : ∀ k, Row b s (crashK keep which cut q l k)
  | 0 => h
  | k + 1 => by
    have ih := crashK_row h keep which cut hq k
    unfold crashK
    split
    · rename_i x hx
      exact crash1_row ih keep which cut k (hq k x hx)
    · exact ih
theorem allK_row {b s : Nat} {l : List Blk} (h : Row b s l) {q : List (Nat × Blk)} (hq : ∀ (i : Nat) (x : Nat × Blk), q[i]? = some x → x.1 < b ∧ x.2.length = s) : ∀ k, Row b s (allK q l k)
  | 0 => h
  | k + 1 => by
    have ih := allK_row h hq k
    unfold allK
    split
    · rename_i x hx
      exact ih.set _ (hq k x hx).2
    · exact ih
theorem Ok.row {n : Nat} {d : Disk} (h : Ok n d) : Row d.blocks d.size d.lasting := ⟨h.len, h.each⟩
theorem Ok.lastB {n : Nat} {d : Disk} (h : Ok n d) {i : Nat} (hi : i < d.blocks) : (lastB d i).length = d.size ∧ d.lasting[i]? = some (lastB d i) := h.row.getD hi
theorem readK_len {b s : Nat} {q : List (Nat × Blk)} {base : Blk} (hb : base.length = s) (hq : ∀ (i : Nat) (x : Nat × Blk), q[i]? = some x → x.1 < b ∧ x.2.length = s) (i : Nat) : ∀ k, (readK q i base k).length = s
  | 0 => hb
  | k + 1 => by
    have ih := readK_len hb hq i k
    unfold readK
    split
    · rename_i x hx
      split
      · exact (hq k x hx).2
      · exact ih
    · exact ih
theorem Ok.read {n : Nat} {d : Disk} (h : Ok n d) {i : Nat} (hi : i < d.blocks) : (read d i).length = d.size := readK_len (h.lastB hi).1 h.wait i _
theorem Ok.new {b s : Nat} (hb : 8 ≤ b ∧ b ≤ 256) (hs : 256 ≤ s ∧ s ≤ 1024) : Ok 0 (new b s) := by
  refine ⟨hb, hs, by simp [Bk.new], fun i x hx => ?_, fun i x hx => by simp [Bk.new] at hx, by simp [Bk.new]⟩
  simp only [Bk.new, List.getElem?_replicate] at hx
  split at hx
  · obtain rfl := Option.some.inj hx
    simp [zeros, Bk.new]
  · cases hx
theorem Ok.crash {n : Nat} {d : Disk} (h : Ok n d) (keep : List Bool) (which cut : Int) : Ok 0 (crash d keep which cut) := by
  have hr := crashK_row h.row keep which cut h.wait d.waiting.length
  exact ⟨h.b, h.s, hr.1, hr.2, fun i x hx => by simp [Bk.crash] at hx, by simp [Bk.crash]⟩
theorem Ok.all {n : Nat} {d : Disk} (h : Ok n d) : Ok 0 (all d) := by
  have hr := allK_row h.row h.wait d.waiting.length
  exact ⟨h.b, h.s, hr.1, hr.2, fun i x hx => by simp [Bk.all] at hx, by simp [Bk.all]⟩
theorem Ok.blown {n : Nat} {d : Disk} (h : Ok n d) : Ok 0 (blown d) := by
  have := h.crash d.keep d.torn d.cut
  exact ⟨this.b, this.s, this.len, this.each, this.wait, this.many⟩
theorem Ok.ticked {n : Nat} {d : Disk} (h : Ok n d) : Ok n (ticked d) := ⟨h.b, h.s, h.len, h.each, h.wait, h.many⟩
theorem Ok.on {n : Nat} {d : Disk} (h : Ok n d) : Ok n (on d) := ⟨h.b, h.s, h.len, h.each, h.wait, h.many⟩
theorem Ok.burns {n : Nat} {d : Disk} (h : Ok n d) : Ok n (burns d).1 := by
  unfold Bk.burns
  split
  · exact h.blown.mono (Nat.zero_le _)
  · exact h.ticked
theorem Ok.wait1 {n : Nat} {d : Disk} (h : Ok n d) {i : Nat} {b : Blk} (hi : i < d.blocks) (hb : b.length = d.size) : Ok (n + 1) { d with waiting := d.waiting ++ [(i, b)] } := by
  refine ⟨h.b, h.s, h.len, h.each, fun j x hx => ?_, by have := h.many; simp; omega⟩
  simp only at hx
  rw [List.getElem?_append] at hx
  split at hx
  · exact h.wait j x hx
  · rw [List.getElem?_singleton] at hx
    split at hx
    · obtain rfl := Option.some.inj hx
      exact ⟨hi, hb⟩
    · cases hx
theorem Ok.put {n : Nat} {d : Disk} (h : Ok n d) (i : Int) (b : Blk) : Ok (n + 1) (put d i b).1 := by
  unfold Bk.put
  split
  · rename_i hi
    split
    · exact h.mono (Nat.le_succ n)
    · split
      · rename_i hb
        exact (h.wait1 (by unfold In at hi; omega) hb).burns
      · exact h.mono (Nat.le_succ n)
  · exact h.mono (Nat.le_succ n)
theorem Ok.flush {n : Nat} {d : Disk} (h : Ok n d) : Ok n (flush d).1 := by
  unfold Bk.flush
  split
  · exact h
  · split
    · exact h.blown.mono (Nat.zero_le _)
    · exact h.ticked.all.mono (Nat.zero_le _)
theorem Ok.arm {n : Nat} {d : Disk} (h : Ok n d) (after : Int) (keep : List Bool) (which cut : Int) : Ok n (arm d after keep which cut).1 := by
  unfold Bk.arm
  split
  · exact h
  · exact ⟨h.b, h.s, h.len, h.each, h.wait, h.many⟩
theorem Ok.corrupt {n : Nat} {d : Disk} (h : Ok n d) (i bit : Int) (mask : BitVec 32) : Ok n (corrupt d i bit mask).1 := by
  unfold Bk.corrupt
  split
  · rename_i hc
    have hi : i.toNat < d.blocks := by have := hc.1; unfold In at this; omega
    have hr := h.row.set i.toNat (x := changed (Bk.lastB d i.toNat) bit.toNat mask 32) (by rw [changed_length]; exact (h.lastB hi).1)
    exact ⟨h.b, h.s, hr.1, hr.2, h.wait, h.many⟩
  · exact h

/-! ### laws -/
theorem crashK_all (q : List (Nat × Blk)) (l : List Blk) (cut : Int) : ∀ k, k ≤ q.length → crashK (List.replicate q.length true) (-1) cut q l k = allK q l k
  | 0, _ => rfl
  | k + 1, hk => by
    obtain ⟨x, hx⟩ := getElem?_some_of_lt (show k < q.length by omega)
    unfold crashK allK
    rw [hx]
    simp only
    rw [crashK_all q l cut k (by omega)]
    unfold crash1
    rw [if_neg (by omega), if_pos (by rw [List.getD_eq_getElem?_getD, List.getElem?_replicate, if_pos (by omega)]; rfl)]
theorem crashK_none (q : List (Nat × Blk)) (l : List Blk) (cut : Int) : ∀ k, crashK [] (-1) cut q l k = l
  | 0 => rfl
  | k + 1 => by
    unfold crashK
    split
    · rename_i x hx
      rw [crashK_none q l cut k]
      unfold crash1
      rw [if_neg (by omega), if_neg (by simp)]
    · exact crashK_none q l cut k
end Go.Proofs.YtflbioiildndoaaGreatDoor.Bk

/- the plain law of disks: corrupted twice; of many flushes; a crash that keeps all, or none -/
namespace Go.Proofs.YtflbioiildndoaaGreatDoor

theorem flip_get (l : List UInt8) (n j : Nat) : (flip l n)[j]? = (l[j]?).map (fun x => if n / 8 = j then x ^^^ UInt8.ofNat (2 ^ (n % 8)) else x) := by
  unfold flip
  split
  · rename_i h
    rw [List.getElem?_set]
    by_cases hj : n / 8 = j
    · subst hj
      rw [if_pos rfl, if_pos h]
      simp [List.getD, List.getElem?_eq_getElem h]
    · rw [if_neg hj]
      simp [hj]
  · rename_i h
    by_cases hj : n / 8 = j
    · subst hj
      rw [List.getElem?_eq_none (by omega)]; rfl
    · simp [hj]
theorem flip_flip (l : List UInt8) (n : Nat) : flip (flip l n) n = l := by
  apply List.ext_getElem?
  intro j
  rw [flip_get, flip_get, Option.map_map]
  have : ((fun x : UInt8 => if n / 8 = j then x ^^^ UInt8.ofNat (2 ^ (n % 8)) else x) ∘ fun x => if n / 8 = j then x ^^^ UInt8.ofNat (2 ^ (n % 8)) else x) = id := by
    funext x
    simp only [Function.comp, id]
    split
    · rw [UInt8.xor_assoc, UInt8.xor_self, UInt8.xor_zero]
    · rfl
  rw [this]
  simp
theorem flip_comm (l : List UInt8) (a b : Nat) : flip (flip l a) b = flip (flip l b) a := by
  apply List.ext_getElem?
  intro j
  rw [flip_get, flip_get, flip_get, flip_get, Option.map_map, Option.map_map]
  congr 1
  funext x
  simp only [Function.comp]
  split <;> split <;> first | rfl | (rw [UInt8.xor_assoc, UInt8.xor_comm (UInt8.ofNat _), ← UInt8.xor_assoc])
theorem changed_flip (l : List UInt8) (bit : Nat) (mask : BitVec 32) (n : Nat) : ∀ k, changed (flip l n) bit mask k = flip (changed l bit mask k) n
  | 0 => rfl
  | k + 1 => by
    rw [changed, changed, changed_flip l bit mask n k]
    split
    · exact flip_comm _ _ _
    · rfl
theorem changed_twice (l : List UInt8) (bit : Nat) (mask : BitVec 32) : ∀ k, changed (changed l bit mask k) bit mask k = l
  | 0 => rfl
  | k + 1 => by
    have ih := changed_twice l bit mask k
    rw [changed, changed]
    split
    · rw [changed_flip, flip_flip, ih]
    · exact ih

namespace Bk
theorem set_same {α : Type} {l : List α} {i : Nat} {x : α} (h : l[i]? = some x) : l.set i x = l := by
  apply List.ext_getElem?
  intro j
  rw [List.getElem?_set]
  split
  · rename_i e; subst e
    rw [if_pos (List.getElem?_eq_some_iff.1 h).1, h]
  · rfl
/-- corrupted twice alike a disk is what it was -/
theorem corrupt_twice {n : Nat} {d : Disk} (h : Ok n d) {i bit : Int} {mask : BitVec 32} (hc : In d i ∧ 0 ≤ bit ∧ bit < 8 * d.size) : (corrupt (corrupt d i bit mask).1 i bit mask).1 = d := by
  have hi : i.toNat < d.blocks := by have := hc.1; unfold In at this; omega
  have hl := (h.lastB hi).2
  unfold corrupt
  rw [if_pos hc]
  simp only
  rw [if_pos (show In { d with lasting := d.lasting.set i.toNat (changed (lastB d i.toNat) bit.toNat mask 32) } i ∧ 0 ≤ bit ∧ bit < 8 * d.size from hc)]
  simp only
  have e : lastB { d with lasting := d.lasting.set i.toNat (changed (lastB d i.toNat) bit.toNat mask 32) } i.toNat = changed (lastB d i.toNat) bit.toNat mask 32 := by
    unfold lastB
    simp only
    rw [List.getD_eq_getElem?_getD, List.getElem?_set, if_pos rfl, if_pos (by rw [h.len]; exact hi)]
    rfl
  rw [e, changed_twice, List.set_set, set_same hl]
theorem corrupt_code {d : Disk} {i bit : Int} {mask : BitVec 32} (hc : In d i ∧ 0 ≤ bit ∧ bit < 8 * d.size) : (corrupt d i bit mask).2 = 0 := by unfold corrupt; rw [if_pos hc]
theorem allK_nil (l : List Blk) : ∀ k, allK [] l k = l
  | 0 => rfl
  | k + 1 => by rw [allK]; simp only [List.getElem?_nil]; exact allK_nil l k
/-- a fuse that lets a calls be done, over a disk whose power is on -/
def armed (d : Disk) (a : Nat) (cut : Int) : Disk := { d with lit := true, after := (a : Int), torn := -1, cut := cut, keep := [], off := false }
/-- behind k flushes -/
def fl (d : Disk) : Nat → Disk
  | 0 => d
  | k + 1 => (flush (fl d k)).1
theorem fl_ok {n : Nat} {d : Disk} (h : Ok n d) : ∀ k, Ok n (fl d k)
  | 0 => h
  | k + 1 => (fl_ok h k).flush
theorem armed_ok {n : Nat} {d : Disk} (h : Ok n d) (a : Nat) (cut : Int) : Ok n (armed d a cut) := ⟨h.b, h.s, h.len, h.each, h.wait, h.many⟩
theorem armed_is (d : Disk) (a : Nat) (cut : Int) : (arm (on d) (a : Int) [] (-1) cut).1 = armed d a cut ∧ (arm (on d) (a : Int) [] (-1) cut).2 = 0 := by
  unfold arm
  rw [if_neg (by omega)]
  exact ⟨rfl, rfl⟩
/-- behind k of the calls that the fuse lets -/
theorem fl_before (d : Disk) (a : Nat) (ha : a < 8) (cut : Int) : ∀ k, k < a → fl (armed d a cut) (k + 1) = { armed d a cut with lasting := allK d.waiting d.lasting d.waiting.length, waiting := [], after := (a : Int) - (k : Int) - 1, count := IntKind.i64.wrap (d.count + ((k : Int) + 1)) }
  | 0, h0 => by
    have h1 : ¬ (armed d a cut).off = true := by simp [armed]
    have h2 : ¬ blows (armed d a cut) := by unfold blows armed; simp only; omega
    have h3 : IntKind.i64.wrap ((a : Int) - 1) = (a : Int) - ((0 : Nat) : Int) - 1 := by rw [IntKind.wrap_i64]; omega
    rw [fl, fl, flush, if_neg h1, if_neg h2]
    simp only [all, ticked, armed]
    rw [h3]
    rfl
  | k + 1, hk => by
    have ih := fl_before d a ha cut k (by omega)
    rw [fl, ih, flush]
    have h1 : ¬ ({ armed d a cut with lasting := allK d.waiting d.lasting d.waiting.length, waiting := [], after := (a : Int) - (k : Int) - 1, count := IntKind.i64.wrap (d.count + ((k : Int) + 1)) } : Disk).off = true := by simp [armed]
    have h2 : ¬ blows { armed d a cut with lasting := allK d.waiting d.lasting d.waiting.length, waiting := [], after := (a : Int) - (k : Int) - 1, count := IntKind.i64.wrap (d.count + ((k : Int) + 1)) } := by unfold blows armed; simp only; omega
    have h3 : IntKind.i64.wrap ((a : Int) - (k : Int) - 1 - 1) = (a : Int) - ((k + 1 : Nat) : Int) - 1 := by rw [IntKind.wrap_i64]; omega
    have h4 : IntKind.i64.wrap (IntKind.i64.wrap (d.count + ((k : Int) + 1)) + 1) = IntKind.i64.wrap (d.count + (((k + 1 : Nat) : Int) + 1)) := by rw [IntKind.wrap_i64, IntKind.wrap_i64, IntKind.wrap_i64]; omega
    rw [if_neg h1, if_neg h2]
    simp only [all, ticked, armed]
    rw [h3, h4]
    rfl
/-- the fuse blows -/
theorem fl_blown (d : Disk) (a : Nat) (ha : a < 8) (cut : Int) : ∀ k, a < k → fl (armed d a cut) k = { armed d a cut with lasting := (if a = 0 then d.lasting else allK d.waiting d.lasting d.waiting.length), waiting := [], lit := false, after := 0, torn := 0, cut := 0, keep := [], off := true, count := (if a = 0 then d.count else IntKind.i64.wrap (d.count + (a : Int))) }
  | 0, h => by omega
  | k + 1, hk => by
    by_cases hak : a < k
    · rw [fl, fl_blown d a ha cut k hak, flush, if_pos rfl]
    · obtain rfl : a = k := by omega
      rw [fl]
      cases a with
      | zero =>
        have h1 : ¬ (armed d 0 cut).off = true := by simp [armed]
        have h2 : blows (armed d 0 cut) := by unfold blows armed; exact ⟨rfl, rfl⟩
        rw [fl, flush, if_neg h1, if_pos h2]
        simp only [blown, crash, armed, if_true]
        rw [crashK_none]
      | succ b =>
        rw [fl_before d (b + 1) ha cut b (by omega)]
        have h1 : ¬ ({ armed d (b + 1) cut with lasting := allK d.waiting d.lasting d.waiting.length, waiting := [], after := ((b + 1 : Nat) : Int) - (b : Int) - 1, count := IntKind.i64.wrap (d.count + ((b : Int) + 1)) } : Disk).off = true := by simp [armed]
        have h2 : blows { armed d (b + 1) cut with lasting := allK d.waiting d.lasting d.waiting.length, waiting := [], after := ((b + 1 : Nat) : Int) - (b : Int) - 1, count := IntKind.i64.wrap (d.count + ((b : Int) + 1)) } := by unfold blows armed; exact ⟨rfl, by simp only; omega⟩
        rw [flush, if_neg h1, if_pos h2]
        simp only [blown, crash, armed]
        rw [if_neg (by omega), if_neg (by omega)]
        rfl
theorem fl_code (d : Disk) (a : Nat) (ha : a < 8) (cut : Int) (k : Nat) : (flush (fl (armed d a cut) k)).2 = if k < a then 0 else 7 := by
  by_cases hk : k < a
  · rw [if_pos hk]
    cases k with
    | zero =>
      rw [fl, flush, if_neg (by simp [armed]), if_neg (by unfold blows armed; simp only; omega)]
    | succ b =>
      rw [fl_before d a ha cut b (by omega), flush, if_neg (by simp [armed]), if_neg (by unfold blows armed; simp only; omega)]
  · rw [if_neg hk]
    by_cases hak : a < k
    · rw [fl_blown d a ha cut k hak, flush, if_pos rfl]
    · obtain rfl : a = k := by omega
      cases a with
      | zero => rw [fl, flush, if_neg (by simp [armed]), if_pos (by unfold blows armed; exact ⟨rfl, rfl⟩)]
      | succ b =>
        rw [fl_before d (b + 1) ha cut b (by omega), flush, if_neg (by simp [armed]), if_pos (by unfold blows armed; exact ⟨rfl, by simp only; omega⟩)]
end Bk
end Go.Proofs.YtflbioiildndoaaGreatDoor

/- the plain law of numbers as bytes -/
namespace Go.Proofs.YtflbioiildndoaaGreatDoor.Fld
/-- a number's bytes, the lowest first -/
def le : Nat → Nat → List UInt8
  | 0, _ => []
  | w + 1, n => UInt8.ofNat n :: le w (n / 256)
/-- the number of bytes, the lowest first -/
def unle : List UInt8 → Nat
  | [] => 0
  | x :: l => x.toNat + 256 * unle l
theorem le_length (w n : Nat) : (le w n).length = w := by
  induction w generalizing n with
  | zero => rfl
  | succ w ih => simp [le, ih]
theorem unle_le (w n : Nat) (h : n < 256 ^ w) : unle (le w n) = n := by
  induction w generalizing n with
  | zero => simp at h; simp [le, unle, h]
  | succ w ih =>
    have : n / 256 < 256 ^ w := by rw [Nat.pow_succ] at h; omega
    simp only [le, unle, ih _ this, UInt8.toNat_ofNat']
    omega
theorem unle_lt (l : List UInt8) : unle l < 256 ^ l.length := by
  induction l with
  | nil => simp [unle]
  | cons x l ih =>
    have := x.toNat_lt
    simp only [unle, List.length_cons, Nat.pow_succ]
    omega
theorem le_unle (l : List UInt8) : le l.length (unle l) = l := by
  induction l with
  | nil => rfl
  | cons x l ih =>
    have := x.toNat_lt
    simp only [List.length_cons, le, unle]
    have h1 : (x.toNat + 256 * unle l) / 256 = unle l := by omega
    rw [h1, ih]
    congr 1
    apply UInt8.toNat_inj.1
    rw [UInt8.toNat_ofNat']
    omega
/-- one byte more -/
theorem le_snoc (k n : Nat) : le (k + 1) n = le k n ++ [UInt8.ofNat (n / 256 ^ k)] := by
  induction k generalizing n with
  | zero => simp [le]
  | succ k ih =>
    rw [le, ih, le, List.cons_append, Nat.div_div_eq_div_mul, Nat.pow_succ, Nat.mul_comm]
theorem unle_append (l m : List UInt8) : unle (l ++ m) = unle l + 256 ^ l.length * unle m := by
  induction l with
  | nil => simp [unle]
  | cons x l ih =>
    simp only [List.cons_append, unle, ih, List.length_cons, Nat.pow_succ, Nat.mul_add]
    rw [← Nat.mul_assoc, Nat.mul_comm 256 (256 ^ l.length)]
    omega
/-- is it a width? -/
def right (w : Int) : Bool := w == 1 || w == 2 || w == 4 || w == 8
theorem right_cases {w : Int} (h : right w = true) : w = 1 ∨ w = 2 ∨ w = 4 ∨ w = 8 := by simpa [right, or_assoc] using h
theorem right_not {w : Int} (h : right w = false) : w ≠ 1 ∧ w ≠ 2 ∧ w ≠ 4 ∧ w ≠ 8 := by simpa [right, and_assoc] using h
end Go.Proofs.YtflbioiildndoaaGreatDoor.Fld

/- the plain law of pages: the block of a page, the page of a block -/
namespace Go.Proofs.YtflbioiildndoaaGreatDoor.Pg
open Fld

/-- a page -/
structure Page where
  kind : Int
  id : Int
  gen : Nat
  body : List UInt8
def zero : Page := ⟨0, 0, 0, []⟩
/-- what a page's head is -/
def headL (kind n id gen : Nat) : List UInt8 := le 1 kind ++ (le 1 0 ++ (le 2 n ++ (le 4 id ++ (le 8 gen ++ le 4 0))))
theorem headL_length (kind n id gen : Nat) : (headL kind n id gen).length = 20 := by simp [headL, le_length]
def pad (n : Nat) : List UInt8 := List.replicate n 0
/-- a block without its sum -/
def bare (p : Page) (size : Nat) : List UInt8 := headL p.kind.toNat p.body.length p.id.toNat p.gen ++ (p.body ++ pad (size - 24 - p.body.length))
def sealL (p : Page) (size : Nat) : List UInt8 := bare p size ++ le 4 (Crc.sum (bare p size)).toNat

def sized (size : Int) : Bool := decide (256 ≤ size) && decide (size ≤ 1024)
/-- why a page is not right -/
def checkC (p : Page) (size : Int) : Nat :=
  if sized size = false then 2 else if p.kind < 1 ∨ 5 < p.kind ∨ p.id < 0 ∨ 255 < p.id ∨ size - 24 < (p.body.length : Int) then 1 else 0

theorem check_ok {p : Page} {size : Int} (h : checkC p size = 0) : (256 ≤ size ∧ size ≤ 1024) ∧ (1 ≤ p.kind ∧ p.kind ≤ 5) ∧ (0 ≤ p.id ∧ p.id ≤ 255) ∧ (p.body.length : Int) ≤ size - 24 := by
  unfold checkC at h
  split at h
  · cases h
  · rename_i h1
    split at h
    · cases h
    · rename_i h2
      have : 256 ≤ size ∧ size ≤ 1024 := by unfold sized at h1; simpa using h1
      omega
theorem check_mk {p : Page} {size : Int} (h1 : 256 ≤ size ∧ size ≤ 1024) (h2 : 1 ≤ p.kind ∧ p.kind ≤ 5) (h3 : 0 ≤ p.id ∧ p.id ≤ 255) (h4 : (p.body.length : Int) ≤ size - 24) : checkC p size = 0 := by
  unfold checkC sized
  rw [if_neg (by simp; omega), if_neg (by omega)]

theorem bare_length {p : Page} {size : Nat} (h : 24 + p.body.length ≤ size) : (bare p size).length = size - 4 := by
  unfold bare pad
  simp only [List.length_append, headL_length, List.length_replicate]
  omega
theorem seal_length {p : Page} {size : Nat} (h : 24 + p.body.length ≤ size) : (sealL p size).length = size := by
  unfold sealL
  rw [List.length_append, bare_length h, le_length]
  omega

/-! ### what a block says -/
def num (l : List UInt8) (at_ w : Nat) : Nat := unle ((l.drop at_).take w)
def readL (l : List UInt8) : Page :=
  ⟨(num l 0 1 : Nat), (num l 4 4 : Nat), num l 8 8, if num l 2 2 ≤ l.length - 24 then (l.drop 20).take (num l 2 2) else []⟩
theorem num_lt (l : List UInt8) (at_ w : Nat) : num l at_ w < 256 ^ w := by
  unfold num
  refine Nat.lt_of_lt_of_le (unle_lt _) ?_
  exact Nat.pow_le_pow_right (by decide) (by rw [List.length_take]; omega)
/-- a number's place in bytes -/
theorem num_of {l a c : List UInt8} {w n : Nat} (h : l = a ++ (le w n ++ c)) (hn : n < 256 ^ w) : num l a.length w = n := by
  subst h
  unfold num
  rw [List.drop_left, List.take_append_of_le_length (by rw [le_length]; exact Nat.le_refl _), List.take_of_length_le (by rw [le_length]; exact Nat.le_refl _)]
  exact unle_le w n hn
theorem le_num {l : List UInt8} {at_ w : Nat} (h : at_ + w ≤ l.length) : le w (num l at_ w) = (l.drop at_).take w := by
  unfold num
  have hl : ((l.drop at_).take w).length = w := by rw [List.length_take, List.length_drop]; omega
  have := le_unle ((l.drop at_).take w)
  rwa [hl] at this

theorem read_head {kind n id gen : Nat} {c : List UInt8} (h1 : kind < 256) (h2 : n < 65536) (h3 : id < 4294967296) (h4 : gen < 18446744073709551616) :
    num (headL kind n id gen ++ c) 0 1 = kind ∧ num (headL kind n id gen ++ c) 2 2 = n ∧ num (headL kind n id gen ++ c) 4 4 = id ∧ num (headL kind n id gen ++ c) 8 8 = gen := by
  refine ⟨?_, ?_, ?_, ?_⟩
  · exact num_of (a := []) (c := le 1 0 ++ (le 2 n ++ (le 4 id ++ (le 8 gen ++ (le 4 0 ++ c))))) (by simp [headL, List.append_assoc]) h1
  · have := num_of (l := headL kind n id gen ++ c) (a := le 1 kind ++ le 1 0) (c := le 4 id ++ (le 8 gen ++ (le 4 0 ++ c))) (w := 2) (n := n) (by simp [headL, List.append_assoc]) h2
    simpa [le_length] using this
  · have := num_of (l := headL kind n id gen ++ c) (a := le 1 kind ++ (le 1 0 ++ le 2 n)) (c := le 8 gen ++ (le 4 0 ++ c)) (w := 4) (n := id) (by simp [headL, List.append_assoc]) h3
    simpa [le_length] using this
  · have := num_of (l := headL kind n id gen ++ c) (a := le 1 kind ++ (le 1 0 ++ (le 2 n ++ le 4 id))) (c := le 4 0 ++ c) (w := 8) (n := gen) (by simp [headL, List.append_assoc]) h4
    simpa [le_length] using this

theorem read_seal {p : Page} {size : Nat} (hc : checkC p size = 0) (hg : p.gen < 18446744073709551616) : readL (sealL p size) = p := by
  obtain ⟨h1, h2, h3, h4⟩ := check_ok hc
  have hl := seal_length (p := p) (size := size) (by omega)
  have e : sealL p size = headL p.kind.toNat p.body.length p.id.toNat p.gen ++ (p.body ++ (pad (size - 24 - p.body.length) ++ le 4 (Crc.sum (bare p size)).toNat)) := by
    unfold sealL
    simp [bare, List.append_assoc]
  obtain ⟨r1, r2, r3, r4⟩ := read_head (kind := p.kind.toNat) (n := p.body.length) (id := p.id.toNat) (gen := p.gen) (c := p.body ++ (pad (size - 24 - p.body.length) ++ le 4 (Crc.sum (bare p size)).toNat)) (by omega) (by omega) (by omega) hg
  rw [← e] at r1 r2 r3 r4
  have hb : (List.drop 20 (sealL p size)).take p.body.length = p.body := by
    rw [e, List.drop_append, List.drop_of_length_le (by rw [headL_length]; exact Nat.le_refl _), headL_length]
    simp
  unfold readL
  rw [r1, r2, r3, r4, hl, if_pos (by omega), hb]
  obtain ⟨k, i, g, b⟩ := p
  simp only [Page.mk.injEq]
  simp only at h2 h3
  exact ⟨by omega, by omega, trivial, trivial⟩

/-- the page of a block: the page, the code, the page that the fault names -/
def named (l : List UInt8) : Int := if num l 4 4 ≤ 255 then (num l 4 4 : Nat) else -1
def opens (l : List UInt8) : Prop := checkC (readL l) l.length = 0 ∧ sealL (readL l) l.length = l
instance (l : List UInt8) : Decidable (opens l) := by unfold opens; infer_instance
def openL (l : List UInt8) : Page × Nat × Int :=
  if sized l.length = false then (zero, 2, -1) else if opens l then (readL l, 0, -1) else (zero, 5, named l)
def openAtL (l : List UInt8) (id : Int) : Page × Nat × Int :=
  if (openL l).2.1 ≠ 0 then openL l else if (openL l).1.id ≠ id then (zero, 5, max id (-1)) else openL l

theorem open_code (l : List UInt8) : (openL l).2.1 = 0 ↔ opens l := by
  unfold openL
  constructor
  · intro h
    split at h
    · cases h
    · split at h
      · assumption
      · cases h
  · intro h
    have h1 := (check_ok h.1).1
    have hsz : sized (l.length : Int) = true := by unfold sized; simp; omega
    rw [if_neg (by rw [hsz]; decide), if_pos h]
theorem open_page {l : List UInt8} (h : opens l) : openL l = (readL l, 0, -1) := by
  have h2 := (open_code l).2 h
  unfold openL at h2 ⊢
  split at h2
  · cases h2
  · rw [if_neg (by assumption), if_pos h]
theorem open_not {l : List UInt8} (h : ¬ opens l) : (openL l).1 = zero := by
  unfold openL
  split
  · rfl
  · rfl
theorem opens_seal {p : Page} {size : Nat} (hc : checkC p size = 0) (hg : p.gen < 18446744073709551616) : opens (sealL p size) ∧ readL (sealL p size) = p := by
  have hr := read_seal hc hg
  obtain ⟨h1, h2, h3, h4⟩ := check_ok hc
  have hl := seal_length (p := p) (size := size) (by omega)
  refine ⟨⟨?_, ?_⟩, hr⟩
  · rw [hr, hl]; exact hc
  · rw [hr, hl]
theorem read_gen (l : List UInt8) : (readL l).gen < 18446744073709551616 := num_lt l 8 8

/-- a block whose text says more bytes than there are opens not -/
theorem opens_len {l : List UInt8} (h : opens l) : num l 2 2 ≤ l.length - 24 ∧ num l 4 4 ≤ 255 := by
  obtain ⟨hc, hs⟩ := h
  obtain ⟨h1, h2, h3, h4⟩ := check_ok hc
  refine ⟨?_, ?_⟩
  · false_or_by_contra
    rename_i hn
    have hb : (readL l).body = [] := by unfold readL; rw [if_neg hn]
    have hr := read_seal hc (read_gen l)
    have e : num (sealL (readL l) l.length) 2 2 = 0 := by
      have e : sealL (readL l) l.length = headL (readL l).kind.toNat (readL l).body.length (readL l).id.toNat (readL l).gen ++ ((readL l).body ++ (pad (l.length - 24 - (readL l).body.length) ++ le 4 (Crc.sum (bare (readL l) l.length)).toNat)) := by
        unfold sealL
        simp [bare, List.append_assoc]
      rw [e, (read_head (by omega) (by rw [hb]; simp) (by omega) (read_gen l)).2.1, hb]
      rfl
    rw [hs] at e
    omega
  · have : (readL l).id = (num l 4 4 : Nat) := rfl
    omega

/-! ### bursts -/
theorem val_le (n : Crc.W) : Crc.val (Crc.bitsOf (le 4 n.toNat)) = n := by
  apply BitVec.eq_of_getLsbD_eq
  intro i hi
  rw [Crc.val_bit _ _ hi, Crc.bitsOf_get]
  have hx : (le 4 n.toNat)[i / 8]? = some (UInt8.ofNat (n.toNat / 256 ^ (i / 8))) := by
    have h4 : i / 8 < 4 := by omega
    rcases (show i / 8 = 0 ∨ i / 8 = 1 ∨ i / 8 = 2 ∨ i / 8 = 3 by omega) with h | h | h | h <;> rw [h] <;> simp [le, Nat.div_div_eq_div_mul]
  rw [hx]
  simp only [Option.map_some, Option.getD_some]
  rw [BitVec.getLsbD, BitVec.getLsbD]
  show (UInt8.ofNat (n.toNat / 256 ^ (i / 8))).toNat.testBit (i % 8) = n.toNat.testBit i
  rw [UInt8.toNat_ofNat', show (256 : Nat) = 2 ^ 8 from rfl, ← Nat.pow_mul]
  rw [Nat.testBit_mod_two_pow, Nat.testBit_div_two_pow]
  have : i % 8 < 8 := Nat.mod_lt _ (by decide)
  simp only [this, decide_true, Bool.true_and]
  congr 1
  omega
/-- bytes with their sum behind them have one sum, whatever they are -/
theorem sum_sum (m : List UInt8) : Crc.sum (m ++ le 4 (Crc.sum m).toNat) = ~~~(Crc.itn 32 (BitVec.allOnes 32)) := by
  unfold Crc.sum Crc.more
  rw [Crc.run_append, ← Crc.fold_bits (Crc.run _ m) (le 4 _)]
  rw [Crc.fold_val _ _ (by rw [Crc.bitsOf_length, le_length]; decide), Crc.bitsOf_length, le_length, val_le]
  congr 2
  have e : ∀ r : BitVec 32, r ^^^ ~~~r = BitVec.allOnes 32 := fun r => by
    ext i hi
    rw [BitVec.getElem_xor, BitVec.getElem_not, BitVec.getElem_allOnes]
    cases r[i] <;> rfl
  exact e _
theorem sum_opens {l : List UInt8} (h : opens l) : Crc.sum l = ~~~(Crc.itn 32 (BitVec.allOnes 32)) := by
  rw [← h.2]
  exact sum_sum _
end Go.Proofs.YtflbioiildndoaaGreatDoor.Pg
