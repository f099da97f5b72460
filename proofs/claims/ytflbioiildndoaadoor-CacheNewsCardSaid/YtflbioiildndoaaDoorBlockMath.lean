/- the plain law of disks: what each call of a disk makes of it -/
import Derived.Test.YtflbioiildndoaaDoorChanged
namespace Go.Proofs.YtflbioiildndoaaDoor.Bk

abbrev Blk := List UInt8
/-- a disk: lasting blocks, writes that wait, a fuse, whether it is off, how many calls were done -/
structure Disk where
  blocks : Nat
  size : Nat
  lasting : List Blk
  waiting : List (Nat × Blk)
  lit : Bool
  after : Int
  torn : Int
  cut : Int
  keep : List Bool
  off : Bool
  count : Int
def zeros (n : Nat) : Blk := List.replicate n 0
def new (b s : Nat) : Disk := ⟨b, s, List.replicate b (zeros s), [], false, 0, 0, 0, [], false, 0⟩
/-- the first bytes of one, and the others of another one -/
def tornB (old b : Blk) (cut : Int) : Blk := b.take cut.toNat ++ old.drop cut.toNat
def crash1 (keep : List Bool) (which cut : Int) (l : List Blk) (k : Nat) (x : Nat × Blk) : List Blk :=
  if (k : Int) = which then l.set x.1 (tornB (l.getD x.1 []) x.2 cut) else if keep.getD k false = true then l.set x.1 x.2 else l
/-- the lasting blocks behind the first k of what waits -/
def crashK (keep : List Bool) (which cut : Int) (q : List (Nat × Blk)) (l : List Blk) : Nat → List Blk
  | 0 => l
  | k + 1 => match q[k]? with | some x => crash1 keep which cut (crashK keep which cut q l k) k x | none => crashK keep which cut q l k
def allK (q : List (Nat × Blk)) (l : List Blk) : Nat → List Blk
  | 0 => l
  | k + 1 => match q[k]? with | some x => (allK q l k).set x.1 x.2 | none => allK q l k
/-- a block as it is read, by the first k of what waits -/
def readK (q : List (Nat × Blk)) (i : Nat) (base : Blk) : Nat → Blk
  | 0 => base
  | k + 1 => match q[k]? with | some x => if x.1 = i then x.2 else readK q i base k | none => readK q i base k
def lastB (d : Disk) (i : Nat) : Blk := d.lasting.getD i []
def read (d : Disk) (i : Nat) : Blk := readK d.waiting i (lastB d i) d.waiting.length
def crash (d : Disk) (keep : List Bool) (which cut : Int) : Disk := { d with lasting := crashK keep which cut d.waiting d.lasting d.waiting.length, waiting := [] }
def all (d : Disk) : Disk := { d with lasting := allK d.waiting d.lasting d.waiting.length, waiting := [] }
/-- a call is done, or the power fails -/
def blows (d : Disk) : Prop := d.lit = true ∧ d.after = 0
instance (d : Disk) : Decidable (blows d) := by unfold blows; infer_instance
def blown (d : Disk) : Disk := { crash d d.keep d.torn d.cut with lit := false, after := 0, torn := 0, cut := 0, keep := [], off := true }
def ticked (d : Disk) : Disk := { d with after := IntKind.i64.wrap (d.after - 1), count := IntKind.i64.wrap (d.count + 1) }
def burns (d : Disk) : Disk × Nat := if blows d then (blown d, 7) else (ticked d, 0)
def In (d : Disk) (i : Int) : Prop := 0 ≤ i ∧ i < d.blocks
instance (d : Disk) (i : Int) : Decidable (In d i) := by unfold In; infer_instance
def put (d : Disk) (i : Int) (b : Blk) : Disk × Nat :=
  if In d i then if d.off = true then (d, 7) else if b.length = d.size then burns { d with waiting := d.waiting ++ [(i.toNat, b)] } else (d, 1) else (d, 2)
def flush (d : Disk) : Disk × Nat := if d.off = true then (d, 7) else if blows d then (blown d, 7) else (all (ticked d), 0)
def arm (d : Disk) (after : Int) (keep : List Bool) (which cut : Int) : Disk × Nat :=
  if after < 0 then (d, 2) else ({ d with lit := true, after := after, torn := which, cut := cut, keep := keep }, 0)
def on (d : Disk) : Disk := { d with lit := false, after := 0, torn := 0, cut := 0, keep := [], off := false }
def corrupt (d : Disk) (i bit : Int) (mask : BitVec 32) : Disk × Nat :=
  if In d i ∧ 0 ≤ bit ∧ bit < 8 * d.size then ({ d with lasting := d.lasting.set i.toNat (changed (lastB d i.toNat) bit.toNat mask 32) }, 0) else (d, 2)

/-! ### what holds of each disk -/
structure Ok (n : Nat) (d : Disk) : Prop where
  b : 8 ≤ d.blocks ∧ d.blocks ≤ 256
  s : 256 ≤ d.size ∧ d.size ≤ 1024
  len : d.lasting.length = d.blocks
  each : ∀ (i : Nat) (x : Blk), d.lasting[i]? = some x → x.length = d.size
  wait : ∀ (i : Nat) (x : Nat × Blk), d.waiting[i]? = some x → x.1 < d.blocks ∧ x.2.length = d.size
  many : d.waiting.length ≤ n
theorem Ok.mono {n m : Nat} {d : Disk} (h : Ok n d) (hm : n ≤ m) : Ok m d := ⟨h.b, h.s, h.len, h.each, h.wait, Nat.le_trans h.many hm⟩
/-- lasting blocks of a number and a size -/
def Row (b s : Nat) (l : List Blk) : Prop := l.length = b ∧ ∀ (i : Nat) (x : Blk), l[i]? = some x → x.length = s
theorem Row.set {b s : Nat} {l : List Blk} (h : Row b s l) (i : Nat) {x : Blk} (hx : x.length = s) : Row b s (l.set i x) := by
  refine ⟨by simpa using h.1, fun j y hy => ?_⟩
  rw [List.getElem?_set] at hy
  split at hy
  · split at hy
    · obtain rfl : x = y := by simpa using hy
      exact hx
    · cases hy
  · exact h.2 j y hy
theorem Row.getD {b s : Nat} {l : List Blk} (h : Row b s l) {i : Nat} (hi : i < b) : (l.getD i []).length = s ∧ l[i]? = some (l.getD i []) := by
  have hl : i < l.length := by rw [h.1]; exact hi
  have e : l[i]? = some (l.getD i []) := by simp [hl]
  exact ⟨h.2 i _ e, e⟩
theorem tornB_length {old b : Blk} {cut : Int} (h : old.length = b.length) : (tornB old b cut).length = b.length := by
  unfold tornB
  rw [List.length_append, List.length_take, List.length_drop]
  omega
theorem crash1_row {b s : Nat} {l : List Blk} (h : Row b s l) (keep : List Bool) (which cut : Int) (k : Nat) {x : Nat × Blk} (hx : x.1 < b ∧ x.2.length = s) : Row b s (crash1 keep which cut l k x) := by
  unfold crash1
  split
  · refine h.set _ ?_
    rw [tornB_length (by rw [(h.getD hx.1).1, hx.2]), hx.2]
  · split
    · exact h.set _ hx.2
    · exact h
theorem crashK_row {b s : Nat} {l : List Blk} (h : Row b s l) (keep : List Bool) (which cut : Int) {q : List (Nat × Blk)} (hq : ∀ (i : Nat) (x : Nat × Blk), q[i]? = some x → x.1 < b ∧ x.2.length = s) : ∀ k, Row b s (crashK keep which cut q l k)
  | 0 => h
  | k + 1 => by
    have ih := crashK_row h keep which cut hq k
    unfold crashK
    split
    · rename_i x hx
      exact crash1_row ih keep which cut k (hq k x hx)
    · exact ih
theorem allK_row {b s : Nat} {l : List Blk} (h : Row b s l) {q : List (Nat × Blk)} (hq : ∀ (i : Nat) (x : Nat × Blk), q[i]? = some x → x.1 < b ∧ x.2.length = s) : ∀ k, Row b s (allK q l k)
  | 0 => h
  | k + 1 => by
    have ih := allK_row h hq k
    unfold allK
    split
    · rename_i x hx
      exact ih.set _ (hq k x hx).2
    · exact ih
theorem Ok.row {n : Nat} {d : Disk} (h : Ok n d) : Row d.blocks d.size d.lasting := ⟨h.len, h.each⟩
theorem Ok.lastB {n : Nat} {d : Disk} (h : Ok n d) {i : Nat} (hi : i < d.blocks) : (lastB d i).length = d.size ∧ d.lasting[i]? = some (lastB d i) := h.row.getD hi
theorem readK_len {b s : Nat} {q : List (Nat × Blk)} {base : Blk} (hb : base.length = s) (hq : ∀ (i : Nat) (x : Nat × Blk), q[i]? = some x → x.1 < b ∧ x.2.length = s) (i : Nat) : ∀ k, (readK q i base k).length = s
  | 0 => hb
  | k + 1 => by
    have ih := readK_len hb hq i k
    unfold readK
    split
    · rename_i x hx
      split
      · exact (hq k x hx).2
      · exact ih
    · exact ih
theorem Ok.read {n : Nat} {d : Disk} (h : Ok n d) {i : Nat} (hi : i < d.blocks) : (read d i).length = d.size := readK_len (h.lastB hi).1 h.wait i _
theorem Ok.new {b s : Nat} (hb : 8 ≤ b ∧ b ≤ 256) (hs : 256 ≤ s ∧ s ≤ 1024) : Ok 0 (new b s) := by
  refine ⟨hb, hs, by simp [Bk.new], fun i x hx => ?_, fun i x hx => by simp [Bk.new] at hx, by simp [Bk.new]⟩
  simp only [Bk.new, List.getElem?_replicate] at hx
  split at hx
  · obtain rfl := Option.some.inj hx
    simp [zeros, Bk.new]
  · cases hx
theorem Ok.crash {n : Nat} {d : Disk} (h : Ok n d) (keep : List Bool) (which cut : Int) : Ok 0 (crash d keep which cut) := by
  have hr := crashK_row h.row keep which cut h.wait d.waiting.length
  exact ⟨h.b, h.s, hr.1, hr.2, fun i x hx => by simp [Bk.crash] at hx, by simp [Bk.crash]⟩
theorem Ok.all {n : Nat} {d : Disk} (h : Ok n d) : Ok 0 (all d) := by
  have hr := allK_row h.row h.wait d.waiting.length
  exact ⟨h.b, h.s, hr.1, hr.2, fun i x hx => by simp [Bk.all] at hx, by simp [Bk.all]⟩
theorem Ok.blown {n : Nat} {d : Disk} (h : Ok n d) : Ok 0 (blown d) := by
  have := h.crash d.keep d.torn d.cut
  exact ⟨this.b, this.s, this.len, this.each, this.wait, this.many⟩
theorem Ok.ticked {n : Nat} {d : Disk} (h : Ok n d) : Ok n (ticked d) := ⟨h.b, h.s, h.len, h.each, h.wait, h.many⟩
theorem Ok.on {n : Nat} {d : Disk} (h : Ok n d) : Ok n (on d) := ⟨h.b, h.s, h.len, h.each, h.wait, h.many⟩
theorem Ok.burns {n : Nat} {d : Disk} (h : Ok n d) : Ok n (burns d).1 := by
  unfold Bk.burns
  split
  · exact h.blown.mono (Nat.zero_le _)
  · exact h.ticked
theorem Ok.wait1 {n : Nat} {d : Disk} (h : Ok n d) {i : Nat} {b : Blk} (hi : i < d.blocks) (hb : b.length = d.size) : Ok (n + 1) { d with waiting := d.waiting ++ [(i, b)] } := by
  refine ⟨h.b, h.s, h.len, h.each, fun j x hx => ?_, by have := h.many; simp; omega⟩
  simp only at hx
  rw [List.getElem?_append] at hx
  split at hx
  · exact h.wait j x hx
  · rw [List.getElem?_singleton] at hx
    split at hx
    · obtain rfl := Option.some.inj hx
      exact ⟨hi, hb⟩
    · cases hx
theorem Ok.put {n : Nat} {d : Disk} (h : Ok n d) (i : Int) (b : Blk) : Ok (n + 1) (put d i b).1 := by
  unfold Bk.put
  split
  · rename_i hi
    split
    · exact h.mono (Nat.le_succ n)
    · split
      · rename_i hb
        exact (h.wait1 (by unfold In at hi; omega) hb).burns
      · exact h.mono (Nat.le_succ n)
  · exact h.mono (Nat.le_succ n)
theorem Ok.flush {n : Nat} {d : Disk} (h : Ok n d) : Ok n (flush d).1 := by
  unfold Bk.flush
  split
  · exact h
  · split
    · exact h.blown.mono (Nat.zero_le _)
    · exact h.ticked.all.mono (Nat.zero_le _)
theorem Ok.arm {n : Nat} {d : Disk} (h : Ok n d) (after : Int) (keep : List Bool) (which cut : Int) : Ok n (arm d after keep which cut).1 := by
  unfold Bk.arm
  split
  · exact h
  · exact ⟨h.b, h.s, h.len, h.each, h.wait, h.many⟩
theorem Ok.corrupt {n : Nat} {d : Disk} (h : Ok n d) (i bit : Int) (mask : BitVec 32) : Ok n (corrupt d i bit mask).1 := by
  unfold Bk.corrupt
  split
  · rename_i hc
    have hi : i.toNat < d.blocks := by have := hc.1; unfold In at this; omega
    have hr := h.row.set i.toNat (x := changed (Bk.lastB d i.toNat) bit.toNat mask 32) (by rw [changed_length]; exact (h.lastB hi).1)
    exact ⟨h.b, h.s, hr.1, hr.2, h.wait, h.many⟩
  · exact h

/-! ### laws -/
theorem crashK_all (q : List (Nat × Blk)) (l : List Blk) (cut : Int) : ∀ k, k ≤ q.length → crashK (List.replicate q.length true) (-1) cut q l k = allK q l k
  | 0, _ => rfl
  | k + 1, hk => by
    obtain ⟨x, hx⟩ := getElem?_some_of_lt (show k < q.length by omega)
    unfold crashK allK
    rw [hx]
    simp only
    rw [crashK_all q l cut k (by omega)]
    unfold crash1
    rw [if_neg (by omega), if_pos (by rw [List.getD_eq_getElem?_getD, List.getElem?_replicate, if_pos (by omega)]; rfl)]
theorem crashK_none (q : List (Nat × Blk)) (l : List Blk) (cut : Int) : ∀ k, crashK [] (-1) cut q l k = l
  | 0 => rfl
  | k + 1 => by
    unfold crashK
    split
    · rename_i x hx
      rw [crashK_none q l cut k]
      unfold crash1
      rw [if_neg (by omega), if_neg (by simp)]
    · exact crashK_none q l cut k
end Go.Proofs.YtflbioiildndoaaDoor.Bk
