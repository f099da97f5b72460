/- merged: CacheMath, CacheOk, CacheLaw, CacheRuns -/
import Derived.Test.YtflbioiildndoaaGreatDoorQ3
/- the plain law of caches: what each call of a cache makes of it -/
namespace Go.Proofs.YtflbioiildndoaaGreatDoor.Ch

/-- a page at hand, or an empty slot -/
structure Slot where
  page : Pg.Page
  full : Bool
  dirty : Bool
  used : Bool
  pins : Int
def Slot.zero : Slot := ⟨Pg.zero, false, false, false, 0⟩
structure Cache where
  slots : List Slot
  hand : Nat
  disk : Bk.Disk
def new (d : Bk.Disk) (n : Nat) : Cache := ⟨List.replicate n Slot.zero, 0, d⟩
def slot (c : Cache) (i : Nat) : Slot := c.slots.getD i Slot.zero
def set (c : Cache) (i : Nat) (s : Slot) : Cache := { c with slots := c.slots.set i s }
/-- whether a slot has a page -/
def has (id : Int) (s : Slot) : Bool := s.full && decide (s.page.id = id)
/-- the first slot from k on that is such a one; so many are to come -/
def firstK (f : Slot → Bool) (c : Cache) : Nat → Nat → Int
  | _, 0 => -1
  | k, n + 1 => if f (slot c k) = true then (k : Int) else firstK f c (k + 1) n
def at_ (c : Cache) (id : Int) : Int := firstK (has id) c 0 c.slots.length
def empty (c : Cache) : Int := firstK (fun s => !s.full) c 0 c.slots.length
/-- a slot's page is written, if it must be -/
def write (c : Cache) (i : Nat) : Cache × Nat :=
  let s := slot c i
  if s.full = true ∧ s.dirty = true then
    let r := Bk.put c.disk s.page.id (Pg.sealL s.page c.disk.size)
    ({ set c i { s with dirty := decide (r.2 ≠ 0) } with disk := r.1 }, r.2)
  else (c, 0)
/-- the hand goes round, from step k on; so many steps are to come -/
def round (c : Cache) : Nat → Nat → Cache × Nat × Nat
  | _, 0 => (c, 0, 3)
  | k, n + 1 =>
    let i := (c.hand + k) % c.slots.length
    let s := slot c i
    if 0 < s.pins then round c (k + 1) n
    else if s.used = true then round (set c i { s with used := false }) (k + 1) n
    else
      let r := write c i
      if r.2 = 0 then ({ set r.1 i Slot.zero with hand := (i + 1) % c.slots.length }, i, 0) else (r.1, 0, r.2)
def room (c : Cache) : Cache × Nat × Nat := if 0 ≤ empty c then (c, (empty c).toNat, 0) else round c 0 (2 * c.slots.length)
/-- the slot of a page -/
def load (c : Cache) (id : Int) : Cache × Nat × Nat :=
  if 0 ≤ at_ c id then (set c (at_ c id).toNat { slot c (at_ c id).toNat with used := true }, (at_ c id).toNat, 0)
  else
    let r := room c
    if r.2.2 ≠ 0 then (r.1, 0, r.2.2)
    else if r.1.disk.off = true then (r.1, 0, 7)
    else
      let o := Pg.openAtL (Bk.read r.1.disk id.toNat) id
      if o.2.1 ≠ 0 then (r.1, 0, o.2.1) else (set r.1 r.2.1 ⟨o.1, true, false, true, 0⟩, r.2.1, 0)
def get (c : Cache) (id : Int) : Cache × Pg.Page × Nat :=
  if Bk.In c.disk id then
    let r := load c id
    if r.2.2 = 0 then (r.1, (slot r.1 r.2.1).page, 0) else (r.1, Pg.zero, r.2.2)
  else (c, Pg.zero, 2)
/-- the slot that a page is put into: its own, or an empty one -/
def place (c : Cache) (id : Int) : Cache × Nat × Nat := if 0 ≤ at_ c id then (c, (at_ c id).toNat, 0) else room c
def put (c : Cache) (p : Pg.Page) : Cache × Nat :=
  if Bk.In c.disk p.id then
    if Pg.checkC p c.disk.size = 0 then
      let r := place c p.id
      if r.2.2 = 0 then (set r.1 r.2.1 ⟨p, true, true, true, (slot r.1 r.2.1).pins⟩, 0) else (r.1, r.2.2)
    else (c, Pg.checkC p c.disk.size)
  else (c, 2)
def pin (c : Cache) (id : Int) : Cache × Nat :=
  if Bk.In c.disk id then
    let r := load c id
    if r.2.2 = 0 then (set r.1 r.2.1 { slot r.1 r.2.1 with pins := IntKind.i64.wrap ((slot r.1 r.2.1).pins + 1) }, 0) else (r.1, r.2.2)
  else (c, 2)
def unpin (c : Cache) (id : Int) : Cache × Nat :=
  if Bk.In c.disk id then
    if at_ c id < 0 ∨ (slot c (at_ c id).toNat).pins = 0 then (c, 4)
    else (set c (at_ c id).toNat { slot c (at_ c id).toNat with pins := IntKind.i64.wrap ((slot c (at_ c id).toNat).pins - 1) }, 0)
  else (c, 2)
def flushK (c : Cache) : Nat → Nat → Cache × Nat
  | _, 0 => (c, 0)
  | k, n + 1 => let r := write c k; if r.2 = 0 then flushK r.1 (k + 1) n else r
def flush (c : Cache) : Cache × Nat := flushK c 0 c.slots.length
def forget (c : Cache) : Cache := { c with slots := List.replicate c.slots.length Slot.zero, hand := 0 }
def drop (c : Cache) (id : Int) : Cache × Bool := if 0 ≤ at_ c id then (set c (at_ c id).toNat Slot.zero, true) else (c, false)
def held (c : Cache) : List Int := (c.slots.filter (·.full)).map (·.page.id)
def dirty (c : Cache) : Nat := (c.slots.filter (·.dirty)).length

/-! ### what holds of each cache -/
/-- a slot that is right: a full one's page may stand in a block -/
def Slot.Ok (size : Nat) (s : Slot) : Prop := s.page.gen < 18446744073709551616 ∧ s.page.body.length ≤ 100000 ∧ (s.full = true → Pg.checkC s.page size = 0)
structure Ok (n : Nat) (c : Cache) : Prop where
  len : 3 ≤ c.slots.length ∧ c.slots.length ≤ 64
  hand : c.hand < c.slots.length
  disk : Bk.Ok n c.disk
  each : ∀ (i : Nat) (s : Slot), c.slots[i]? = some s → s.Ok c.disk.size
theorem Ok.mono {n m : Nat} {c : Cache} (h : Ok n c) (hm : n ≤ m) : Ok m c := ⟨h.len, h.hand, h.disk.mono hm, h.each⟩
theorem Slot.zero_ok (size : Nat) : Slot.zero.Ok size := ⟨by decide, by decide, fun h => by cases h⟩
theorem slot_at {c : Cache} {i : Nat} (hi : i < c.slots.length) : c.slots[i]? = some (slot c i) := by
  unfold slot
  rw [List.getD_eq_getElem?_getD, List.getElem?_eq_getElem hi]; rfl
theorem Ok.slot {n : Nat} {c : Cache} (h : Ok n c) {i : Nat} (hi : i < c.slots.length) : (slot c i).Ok c.disk.size := h.each i _ (slot_at hi)
theorem Ok.set {n : Nat} {c : Cache} (h : Ok n c) (i : Nat) {s : Slot} (hs : s.Ok c.disk.size) : Ok n (set c i s) := by
  refine ⟨by simpa [Ch.set] using h.len, by simpa [Ch.set] using h.hand, h.disk, fun j t ht => ?_⟩
  simp only [Ch.set] at ht ⊢
  rw [List.getElem?_set] at ht
  split at ht
  · split at ht
    · cases ht; exact hs
    · cases ht
  · exact h.each j t ht
theorem set_len (c : Cache) (i : Nat) (s : Slot) : (set c i s).slots.length = c.slots.length := by simp [set]
theorem set_disk (c : Cache) (i : Nat) (s : Slot) : (set c i s).disk = c.disk := rfl
theorem slot_set {c : Cache} {i : Nat} {s : Slot} (hi : i < c.slots.length) (j : Nat) : slot (set c i s) j = if i = j then s else slot c j := by
  unfold slot set
  simp only [List.getD_eq_getElem?_getD, List.getElem?_set]
  by_cases h : i = j
  · subst h; simp [hi]
  · simp [h]
theorem put_size (d : Bk.Disk) (i : Int) (b : Bk.Blk) : (Bk.put d i b).1.size = d.size ∧ (Bk.put d i b).1.blocks = d.blocks := by
  unfold Bk.put
  split
  · split
    · exact ⟨rfl, rfl⟩
    · split
      · unfold Bk.burns; split <;> exact ⟨rfl, rfl⟩
      · exact ⟨rfl, rfl⟩
  · exact ⟨rfl, rfl⟩
theorem write_geo (c : Cache) (i : Nat) : (write c i).1.slots.length = c.slots.length ∧ (write c i).1.hand = c.hand ∧ (write c i).1.disk.size = c.disk.size ∧ (write c i).1.disk.blocks = c.disk.blocks := by
  unfold write
  dsimp only
  split
  · exact ⟨by simp [set], rfl, (put_size _ _ _).1, (put_size _ _ _).2⟩
  · exact ⟨rfl, rfl, rfl, rfl⟩
theorem Ok.write {n : Nat} {c : Cache} (h : Ok n c) {i : Nat} (hi : i < c.slots.length) : Ok (n + 1) (write c i).1 := by
  unfold Ch.write
  dsimp only
  split
  · have hs := h.slot hi
    have h1 := h.set i (s := { Ch.slot c i with dirty := decide ((Bk.put c.disk (Ch.slot c i).page.id (Pg.sealL (Ch.slot c i).page c.disk.size)).2 ≠ 0) }) ⟨hs.1, hs.2.1, hs.2.2⟩
    have h2 := h.disk.put (Ch.slot c i).page.id (Pg.sealL (Ch.slot c i).page c.disk.size)
    refine ⟨h1.len, h1.hand, h2, fun j t ht => ?_⟩
    have := h1.each j t ht
    rw [set_disk] at this
    show t.Ok (Bk.put c.disk (Ch.slot c i).page.id (Pg.sealL (Ch.slot c i).page c.disk.size)).1.size
    rw [(put_size _ _ _).1]
    exact this
  · exact h.mono (Nat.le_succ n)
theorem firstK_range (f : Slot → Bool) (c : Cache) : ∀ n k, firstK f c k n = -1 ∨ ((k : Int) ≤ firstK f c k n ∧ firstK f c k n < (k : Int) + n ∧ f (slot c (firstK f c k n).toNat) = true)
  | 0, k => .inl rfl
  | n + 1, k => by
    unfold firstK
    split
    · rename_i h
      refine .inr ⟨by omega, by omega, ?_⟩
      rw [Int.toNat_natCast]; exact h
    · rcases firstK_range f c n (k + 1) with h | ⟨h1, h2, h3⟩
      · exact .inl h
      · exact .inr ⟨by omega, by omega, h3⟩
theorem round_geo (c : Cache) : ∀ n k, (round c k n).1.slots.length = c.slots.length ∧ (round c k n).1.disk.size = c.disk.size ∧ (round c k n).1.disk.blocks = c.disk.blocks := by
  intro n
  induction n generalizing c with
  | zero => exact fun k => ⟨rfl, rfl, rfl⟩
  | succ n ih =>
    intro k
    unfold round
    dsimp only
    split
    · exact ih c (k + 1)
    · split
      · have := ih (set c ((c.hand + k) % c.slots.length) { slot c ((c.hand + k) % c.slots.length) with used := false }) (k + 1)
        rwa [set_len, set_disk] at this
      · have hw := write_geo c ((c.hand + k) % c.slots.length)
        split
        · exact ⟨(set_len _ _ _).trans hw.1, hw.2.2.1, hw.2.2.2⟩
        · exact ⟨hw.1, hw.2.2.1, hw.2.2.2⟩
theorem Ok.round {n : Nat} : ∀ (m : Nat) {c : Cache} (_ : Ok n c) (k : Nat), Ok (n + 1) (round c k m).1 ∧ (round c k m).2.1 < c.slots.length
  | 0, c, h, k => ⟨h.mono (Nat.le_succ n), by have := h.len; show 0 < _; omega⟩
  | m + 1, c, h, k => by
    have hl := h.len
    have hi : (c.hand + k) % c.slots.length < c.slots.length := Nat.mod_lt _ (by omega)
    unfold Ch.round
    dsimp only
    split
    · exact Ok.round m h (k + 1)
    · split
      · have hs := h.slot hi
        have := Ok.round m (h.set ((c.hand + k) % c.slots.length) (s := { Ch.slot c ((c.hand + k) % c.slots.length) with used := false }) ⟨hs.1, hs.2.1, hs.2.2⟩) (k + 1)
        rwa [set_len] at this
      · have hw := h.write hi
        have hg := write_geo c ((c.hand + k) % c.slots.length)
        split
        · have h1 := hw.set ((c.hand + k) % c.slots.length) (Slot.zero_ok _)
          exact ⟨⟨h1.len, by rw [set_len, hg.1]; exact Nat.mod_lt _ (by omega), h1.disk, h1.each⟩, hi⟩
        · exact ⟨hw, by show 0 < _; omega⟩
theorem Ok.room {n : Nat} {c : Cache} (h : Ok n c) : Ok (n + 1) (room c).1 ∧ (room c).2.1 < c.slots.length := by
  unfold Ch.room
  split
  · rename_i he
    refine ⟨h.mono (Nat.le_succ n), ?_⟩
    rcases firstK_range (fun s => !s.full) c c.slots.length 0 with h1 | ⟨h1, h2, _⟩
    · unfold empty at he; omega
    · unfold empty at he ⊢; show (firstK (fun s => !s.full) c 0 c.slots.length).toNat < _; omega
  · exact Ok.round _ h 0
theorem room_geo (c : Cache) : (room c).1.slots.length = c.slots.length ∧ (room c).1.disk.size = c.disk.size ∧ (room c).1.disk.blocks = c.disk.blocks := by
  unfold room
  split
  · exact ⟨rfl, rfl, rfl⟩
  · exact round_geo c _ _
end Go.Proofs.YtflbioiildndoaaGreatDoor.Ch

/- the plain law of caches: what each call leaves is a cache -/
namespace Go.Proofs.YtflbioiildndoaaGreatDoor.Ch

theorem at_range (c : Cache) (id : Int) : at_ c id = -1 ∨ (0 ≤ at_ c id ∧ (at_ c id).toNat < c.slots.length) := by
  unfold at_
  rcases firstK_range (has id) c c.slots.length 0 with h | ⟨h1, h2, _⟩
  · exact .inl h
  · exact .inr ⟨by omega, by omega⟩
theorem Ok.load {n : Nat} {c d : Cache} {id : Int} {i k : Nat} (ho : Ok n c) (hid : Bk.In c.disk id) (hD : Ch.load c id = (d, i, k)) : Ok (n + 1) d ∧ i < d.slots.length ∧ d.slots.length = c.slots.length ∧ d.disk.blocks = c.disk.blocks ∧ d.disk.size = c.disk.size := by
  have hlen := ho.len
  unfold Ch.load at hD
  split at hD
  · rename_i ha
    obtain ⟨rfl, rfl, -⟩ := (by simpa only [Prod.mk.injEq] using hD : _ ∧ _ ∧ _)
    have hr : (at_ c id).toNat < c.slots.length := by
      rcases at_range c id with h | ⟨_, h⟩
      · omega
      · exact h
    have hs := ho.slot hr
    exact ⟨Ok.mono (ho.set _ ⟨hs.1, hs.2.1, hs.2.2⟩) (Nat.le_succ n), by rw [set_len]; exact hr, set_len _ _ _, rfl, rfl⟩
  · obtain ⟨h1, h2⟩ := ho.room
    have hg := room_geo c
    obtain ⟨D1, i1, k1, hr⟩ : ∃ D1 i1 k1, Ch.room c = (D1, i1, k1) := ⟨_, _, _, rfl⟩
    rw [hr] at hD h1 h2 hg
    simp only at hD h1 h2 hg
    split at hD
    · obtain ⟨rfl, rfl, -⟩ := (by simpa only [Prod.mk.injEq] using hD : _ ∧ _ ∧ _)
      exact ⟨h1, by rw [hg.1]; omega, hg.1, hg.2.2, hg.2.1⟩
    · split at hD
      · obtain ⟨rfl, rfl, -⟩ := (by simpa only [Prod.mk.injEq] using hD : _ ∧ _ ∧ _)
        exact ⟨h1, by rw [hg.1]; omega, hg.1, hg.2.2, hg.2.1⟩
      · split at hD
        · obtain ⟨rfl, rfl, -⟩ := (by simpa only [Prod.mk.injEq] using hD : _ ∧ _ ∧ _)
          exact ⟨h1, by rw [hg.1]; omega, hg.1, hg.2.2, hg.2.1⟩
        · rename_i h0
          obtain ⟨rfl, rfl, -⟩ := (by simpa only [Prod.mk.injEq] using hD : _ ∧ _ ∧ _)
          have hz : (Pg.openAtL (Bk.read D1.disk id.toNat) id).2.1 = 0 := by simpa using h0
          have ho' : Pg.opens (Bk.read D1.disk id.toNat) ∧ (Pg.openAtL (Bk.read D1.disk id.toNat) id).1 = Pg.readL (Bk.read D1.disk id.toNat) := by
            by_cases hop : Pg.opens (Bk.read D1.disk id.toNat)
            · refine ⟨hop, ?_⟩
              have he := Pg.open_page hop
              unfold Pg.openAtL at hz ⊢
              rw [he] at hz ⊢
              simp only at hz ⊢
              rw [if_neg (by simp)] at hz ⊢
              split at hz
              · cases hz
              · rename_i hy; rw [if_neg hy]
            · have hne : ¬ (Pg.openL (Bk.read D1.disk id.toNat)).2.1 = 0 := fun e => hop ((Pg.open_code _).1 e)
              unfold Pg.openAtL at hz
              rw [if_pos hne] at hz
              exact absurd hz hne
          have hin : id.toNat < D1.disk.blocks := by
            unfold Bk.In at hid
            rw [hg.2.2]; omega
          have hl := h1.disk.read hin
          have hc := ho'.1.1
          rw [hl] at hc
          obtain ⟨c1, c2, c3, c4⟩ := Pg.check_ok hc
          have hs := h1.disk.s
          refine ⟨h1.set _ ?_, by rw [set_len, hg.1]; exact h2, by rw [set_len, hg.1], hg.2.2, hg.2.1⟩
          rw [ho'.2]
          exact ⟨Pg.read_gen _, by show (Pg.readL _).body.length ≤ 100000; omega, fun _ => hc⟩
theorem Ok.get {n : Nat} {c d : Cache} {id : Int} {p : Pg.Page} {k : Nat} (ho : Ok n c) (hD : Ch.get c id = (d, p, k)) : Ok (n + 1) d ∧ d.slots.length = c.slots.length ∧ d.disk.blocks = c.disk.blocks ∧ d.disk.size = c.disk.size := by
  unfold Ch.get at hD
  split at hD
  · rename_i hid
    obtain ⟨D1, i1, k1, hl⟩ : ∃ D1 i1 k1, Ch.load c id = (D1, i1, k1) := ⟨_, _, _, rfl⟩
    rw [hl] at hD
    simp only at hD
    obtain ⟨h1, h2, h3, h4, h5⟩ := ho.load hid hl
    split at hD
    · obtain ⟨rfl, -, -⟩ := (by simpa only [Prod.mk.injEq] using hD : _ ∧ _ ∧ _)
      exact ⟨h1, h3, h4, h5⟩
    · obtain ⟨rfl, -, -⟩ := (by simpa only [Prod.mk.injEq] using hD : _ ∧ _ ∧ _)
      exact ⟨h1, h3, h4, h5⟩
  · obtain ⟨rfl, -, -⟩ := (by simpa only [Prod.mk.injEq] using hD : _ ∧ _ ∧ _)
    exact ⟨ho.mono (Nat.le_succ n), rfl, rfl, rfl⟩
theorem Ok.pin {n : Nat} {c d : Cache} {id : Int} {k : Nat} (ho : Ok n c) (hD : Ch.pin c id = (d, k)) : Ok (n + 1) d ∧ d.slots.length = c.slots.length ∧ d.disk.blocks = c.disk.blocks ∧ d.disk.size = c.disk.size := by
  unfold Ch.pin at hD
  split at hD
  · rename_i hid
    obtain ⟨D1, i1, k1, hl⟩ : ∃ D1 i1 k1, Ch.load c id = (D1, i1, k1) := ⟨_, _, _, rfl⟩
    rw [hl] at hD
    simp only at hD
    obtain ⟨h1, h2, h3, h4, h5⟩ := ho.load hid hl
    split at hD
    · obtain ⟨rfl, -⟩ := (by simpa only [Prod.mk.injEq] using hD : _ ∧ _)
      have hs := h1.slot h2
      exact ⟨h1.set _ ⟨hs.1, hs.2.1, hs.2.2⟩, by rw [set_len, h3], h4, h5⟩
    · obtain ⟨rfl, -⟩ := (by simpa only [Prod.mk.injEq] using hD : _ ∧ _)
      exact ⟨h1, h3, h4, h5⟩
  · obtain ⟨rfl, -⟩ := (by simpa only [Prod.mk.injEq] using hD : _ ∧ _)
    exact ⟨ho.mono (Nat.le_succ n), rfl, rfl, rfl⟩
theorem Ok.place {n : Nat} {c d : Cache} {id : Int} {i k : Nat} (ho : Ok n c) (hD : Ch.place c id = (d, i, k)) : Ok (n + 1) d ∧ i < d.slots.length ∧ d.slots.length = c.slots.length ∧ d.disk.blocks = c.disk.blocks ∧ d.disk.size = c.disk.size := by
  unfold Ch.place at hD
  split at hD
  · obtain ⟨rfl, rfl, -⟩ := (by simpa only [Prod.mk.injEq] using hD : _ ∧ _ ∧ _)
    have hr : (at_ c id).toNat < c.slots.length := by
      rcases at_range c id with h | ⟨_, h⟩
      · omega
      · exact h
    exact ⟨ho.mono (Nat.le_succ n), hr, rfl, rfl, rfl⟩
  · obtain ⟨h1, h2⟩ := ho.room
    have hg := room_geo c
    rw [hD] at h1 h2 hg
    simp only at h1 h2 hg
    exact ⟨h1, by rw [hg.1]; exact h2, hg.1, hg.2.2, hg.2.1⟩
theorem Ok.put {n : Nat} {c d : Cache} {p : Pg.Page} {k : Nat} (ho : Ok n c) (hg : p.gen < 18446744073709551616) (hb : p.body.length ≤ 100000) (hD : Ch.put c p = (d, k)) : Ok (n + 1) d ∧ d.slots.length = c.slots.length ∧ d.disk.blocks = c.disk.blocks ∧ d.disk.size = c.disk.size := by
  unfold Ch.put at hD
  split at hD
  · split at hD
    · rename_i hc
      obtain ⟨D1, i1, k1, hl⟩ : ∃ D1 i1 k1, Ch.place c p.id = (D1, i1, k1) := ⟨_, _, _, rfl⟩
      rw [hl] at hD
      simp only at hD
      obtain ⟨h1, h2, h3, h4, h5⟩ := ho.place hl
      split at hD
      · obtain ⟨rfl, -⟩ := (by simpa only [Prod.mk.injEq] using hD : _ ∧ _)
        exact ⟨h1.set _ ⟨hg, hb, fun _ => by rw [h5]; exact hc⟩, by rw [set_len, h3], h4, h5⟩
      · obtain ⟨rfl, -⟩ := (by simpa only [Prod.mk.injEq] using hD : _ ∧ _)
        exact ⟨h1, h3, h4, h5⟩
    · obtain ⟨rfl, -⟩ := (by simpa only [Prod.mk.injEq] using hD : _ ∧ _)
      exact ⟨ho.mono (Nat.le_succ n), rfl, rfl, rfl⟩
  · obtain ⟨rfl, -⟩ := (by simpa only [Prod.mk.injEq] using hD : _ ∧ _)
    exact ⟨ho.mono (Nat.le_succ n), rfl, rfl, rfl⟩
theorem Ok.unpin {n : Nat} {c d : Cache} {id : Int} {k : Nat} (ho : Ok n c) (hD : Ch.unpin c id = (d, k)) : Ok n d ∧ d.slots.length = c.slots.length ∧ d.disk.blocks = c.disk.blocks ∧ d.disk.size = c.disk.size := by
  unfold Ch.unpin at hD
  split at hD
  · split at hD
    · obtain ⟨rfl, -⟩ := (by simpa only [Prod.mk.injEq] using hD : _ ∧ _)
      exact ⟨ho, rfl, rfl, rfl⟩
    · rename_i h
      obtain ⟨rfl, -⟩ := (by simpa only [Prod.mk.injEq] using hD : _ ∧ _)
      have hr : (at_ c id).toNat < c.slots.length := by
        rcases at_range c id with h1 | ⟨_, h1⟩
        · omega
        · exact h1
      have hs := ho.slot hr
      exact ⟨ho.set _ ⟨hs.1, hs.2.1, hs.2.2⟩, set_len _ _ _, rfl, rfl⟩
  · obtain ⟨rfl, -⟩ := (by simpa only [Prod.mk.injEq] using hD : _ ∧ _)
    exact ⟨ho, rfl, rfl, rfl⟩
theorem Ok.flushK {m : Nat} : ∀ {n : Nat} {c : Cache} (_ : Ok n c) (k : Nat), k + m ≤ c.slots.length → Ok (n + m) (Ch.flushK c k m).1 ∧ (Ch.flushK c k m).1.slots.length = c.slots.length ∧ (Ch.flushK c k m).1.disk.blocks = c.disk.blocks ∧ (Ch.flushK c k m).1.disk.size = c.disk.size := by
  induction m with
  | zero => exact fun ho k _ => ⟨ho, rfl, rfl, rfl⟩
  | succ m ih =>
    intro n c ho k hk
    rw [Ch.flushK]
    have hw := ho.write (i := k) (by omega)
    have hg := write_geo c k
    split
    · obtain ⟨h1, h2, h3, h4⟩ := ih hw (k + 1) (by rw [hg.1]; omega)
      exact ⟨h1.mono (by omega), h2.trans hg.1, h3.trans hg.2.2.2, h4.trans hg.2.2.1⟩
    · exact ⟨hw.mono (by omega), hg.1, hg.2.2.2, hg.2.2.1⟩
theorem Ok.flush {n : Nat} {c : Cache} (ho : Ok n c) : Ok (n + c.slots.length) (Ch.flush c).1 ∧ (Ch.flush c).1.slots.length = c.slots.length ∧ (Ch.flush c).1.disk.blocks = c.disk.blocks ∧ (Ch.flush c).1.disk.size = c.disk.size := ho.flushK 0 (by omega)
theorem Ok.forget {n : Nat} {c : Cache} (ho : Ok n c) : Ok n (Ch.forget c) := by
  have hl : (Ch.forget c).slots.length = c.slots.length := by unfold Ch.forget; simp
  refine ⟨by rw [hl]; exact ho.len, by rw [hl]; show 0 < _; have := ho.len; omega, ho.disk, fun i s hs => ?_⟩
  unfold Ch.forget at hs
  simp only at hs
  rw [List.getElem?_replicate] at hs
  split at hs
  · cases hs; exact Slot.zero_ok _
  · cases hs
theorem Ok.drop {n : Nat} {c d : Cache} {id : Int} {b : Bool} (ho : Ok n c) (hD : Ch.drop c id = (d, b)) : Ok n d ∧ d.slots.length = c.slots.length ∧ d.disk.blocks = c.disk.blocks ∧ d.disk.size = c.disk.size := by
  unfold Ch.drop at hD
  split at hD
  · obtain ⟨rfl, -⟩ := (by simpa only [Prod.mk.injEq] using hD : _ ∧ _)
    exact ⟨ho.set _ (Slot.zero_ok _), set_len _ _ _, rfl, rfl⟩
  · obtain ⟨rfl, -⟩ := (by simpa only [Prod.mk.injEq] using hD : _ ∧ _)
    exact ⟨ho, rfl, rfl, rfl⟩
end Go.Proofs.YtflbioiildndoaaGreatDoor.Ch

/- the plain law of caches: what was put last is what is got; a page with a pin stays -/
namespace Go.Proofs.YtflbioiildndoaaGreatDoor

namespace Bk
theorem readK_snoc (q : List (Nat × Blk)) (x : Nat × Blk) (i : Nat) (base : Blk) : ∀ k, k ≤ q.length → readK (q ++ [x]) i base k = readK q i base k
  | 0, _ => rfl
  | k + 1, h => by
    rw [readK, readK, List.getElem?_append_left (by omega), readK_snoc q x i base k (by omega)]
theorem read_wait (d : Disk) (i : Nat) (b : Blk) (j : Nat) : read { d with waiting := d.waiting ++ [(i, b)] } j = if i = j then b else read d j := by
  unfold read lastB
  simp only [List.length_append, List.length_singleton]
  rw [readK, List.getElem?_append_right (Nat.le_refl _), Nat.sub_self]
  simp only [List.getElem?_cons_zero]
  rw [readK_snoc _ _ _ _ _ (Nat.le_refl _)]
theorem read_ticked (d : Disk) (j : Nat) : read (ticked d) j = read d j := rfl
/-- a block is written while the power is on and no fuse lit -/
theorem put_on {d : Disk} {i : Int} {b : Blk} (hi : In d i) (hoff : d.off = false) (hlit : d.lit = false) (hb : b.length = d.size) : put d i b = (ticked { d with waiting := d.waiting ++ [(i.toNat, b)] }, 0) := by
  unfold put
  rw [if_pos hi, if_neg (by rw [hoff]; decide), if_pos hb]
  unfold burns
  rw [if_neg (by intro h; have := h.1; simp [hlit] at this)]
theorem allK_len (q : List (Nat × Blk)) (l : List Blk) : ∀ k, (allK q l k).length = l.length
  | 0 => rfl
  | k + 1 => by
    rw [allK]
    split
    · rw [List.length_set, allK_len q l k]
    · exact allK_len q l k
theorem lastB_all {q : List (Nat × Blk)} {l : List Blk} (hq : ∀ (j : Nat) (x : Nat × Blk), q[j]? = some x → x.1 < l.length) (i : Nat) : ∀ k, (allK q l k).getD i [] = readK q i (l.getD i []) k
  | 0 => rfl
  | k + 1 => by
    have ih := lastB_all hq i k
    rw [allK, readK]
    cases hx : q[k]? with
    | none => exact ih
    | some x =>
      simp only
      rw [List.getD_eq_getElem?_getD, List.getElem?_set]
      by_cases e : x.1 = i
      · rw [if_pos e, if_pos e, if_pos (by rw [allK_len]; exact hq k x hx)]; rfl
      · rw [if_neg e, if_neg e, ← List.getD_eq_getElem?_getD, ih]
theorem read_all {n : Nat} {d : Disk} (h : Ok n d) (i : Nat) : read (all d) i = read d i := by
  unfold read all
  simp only [List.length_nil, readK]
  unfold lastB
  exact lastB_all (fun j x hx => by rw [h.len]; exact (h.wait j x hx).1) i _
end Bk

namespace Ch
/-- how many numbers below n are such ones -/
def cnt (p : Nat → Bool) : Nat → Nat
  | 0 => 0
  | n + 1 => cnt p n + if p n = true then 1 else 0
theorem cnt_le (p : Nat → Bool) : ∀ n, cnt p n ≤ n
  | 0 => Nat.le_refl _
  | n + 1 => by have := cnt_le p n; rw [cnt]; split <;> omega
theorem cnt_congr {p q : Nat → Bool} : ∀ {n}, (∀ i, i < n → p i = q i) → cnt p n = cnt q n
  | 0, _ => rfl
  | n + 1, h => by rw [cnt, cnt, cnt_congr fun i hi => h i (by omega), h n (by omega)]
theorem cnt_full {p : Nat → Bool} : ∀ {n}, cnt p n = n → ∀ i, i < n → p i = true
  | 0, _, i, hi => by omega
  | n + 1, h, i, hi => by
    have hl := cnt_le p n
    rw [cnt] at h
    by_cases hp : p n = true
    · rw [if_pos hp] at h
      rcases Nat.lt_succ_iff_lt_or_eq.1 hi with h1 | rfl
      · exact cnt_full (by omega) i h1
      · exact hp
    · rw [if_neg hp] at h; omega
theorem cnt_free {p : Nat → Bool} : ∀ {n}, cnt p n < n → ∃ i, i < n ∧ p i = false
  | 0, h => by omega
  | n + 1, h => by
    by_cases hp : p n = true
    · rw [cnt, if_pos hp] at h
      obtain ⟨i, h1, h2⟩ := cnt_free (p := p) (n := n) (by omega)
      exact ⟨i, by omega, h2⟩
    · exact ⟨n, by omega, by simpa using hp⟩
theorem cnt_more {p q : Nat → Bool} {i : Nat} (hp : p i = false) (hq : q i = true) (h : ∀ j, j ≠ i → p j = q j) : ∀ {n}, i < n → cnt q n = cnt p n + 1
  | 0, hi => by omega
  | n + 1, hi => by
    rw [cnt, cnt]
    by_cases e : i = n
    · subst e
      rw [if_pos hq, if_neg (by rw [hp]; decide), cnt_congr (p := q) (q := p) fun j hj => (h j (by omega)).symm]
    · rw [cnt_more hp hq h (show i < n by omega), h n (fun x => e x.symm)]
      omega
theorem cnt_zero {p : Nat → Bool} : ∀ {n}, (∀ i, i < n → p i = false) → cnt p n = 0
  | 0, _ => rfl
  | n + 1, h => by rw [cnt, cnt_zero fun i hi => h i (by omega), h n (by omega)]; rfl
/-- just one is such a one -/
theorem cnt_one {p : Nat → Bool} {i n : Nat} (hi : i < n) (hp : p i = true) (h : ∀ j, j < n → j ≠ i → p j = false) : cnt p n = 1 := by
  have h1 := cnt_more (p := fun j => p j && decide (j ≠ i)) (q := p) (i := i) (by simp) hp (fun j hj => by simp [hj]) hi
  rw [h1, cnt_zero fun j hj => ?_]
  by_cases e : j = i
  · simp [e]
  · simp [h j hj e]
theorem cnt_filter {α : Type} (f : α → Bool) (d : α) (l : List α) : ∀ k, k ≤ l.length → ((l.take k).filter f).length = cnt (fun i => f (l.getD i d)) k
  | 0, _ => by rw [List.take_zero]; rfl
  | k + 1, h => by
    have hk : k < l.length := by omega
    rw [List.take_add_one, List.getElem?_eq_getElem hk, List.filter_append, List.length_append, cnt_filter f d l k (by omega), cnt, List.getD_eq_getElem?_getD, List.getElem?_eq_getElem hk]
    simp only [Option.toList_some, Option.getD_some, List.filter_cons, List.filter_nil]
    split <;> simp_all

/-- how many slots have a pin -/
def pinned (c : Cache) : Nat := cnt (fun i => decide (0 < (slot c i).pins)) c.slots.length
/-- pages 2 to 7 are as V says: at hand, or in their blocks -/
structure Good (n : Nat) (V : Int → Pg.Page) (c : Cache) : Prop where
  ok : Ok n c
  on : c.disk.off = false ∧ c.disk.lit = false
  geo : c.disk.blocks = 12 ∧ c.disk.size = 256
  view : ∀ id, 2 ≤ id → id ≤ 7 → Pg.checkC (V id) (256 : Nat) = 0 ∧ (V id).gen < 18446744073709551616 ∧ (V id).id = id
  slots : ∀ i, i < c.slots.length → (slot c i).full = true → 2 ≤ (slot c i).page.id ∧ (slot c i).page.id ≤ 7 ∧ (slot c i).page = V (slot c i).page.id
  one : ∀ i j, i < c.slots.length → j < c.slots.length → (slot c i).full = true → (slot c j).full = true → (slot c i).page.id = (slot c j).page.id → i = j
  free : ∀ i, i < c.slots.length → (slot c i).full = false → (slot c i).pins = 0
  pins : ∀ i, i < c.slots.length → 0 ≤ (slot c i).pins
  stand : ∀ id, 2 ≤ id → id ≤ 7 → (∃ i, i < c.slots.length ∧ (slot c i).full = true ∧ (slot c i).dirty = true ∧ (slot c i).page.id = id) ∨ Bk.read c.disk id.toNat = Pg.sealL (V id) 256
/-- pins are as they were; pages at hand were so; with a pin they stay -/
structure Stays (c c' : Cache) : Prop where
  len : c'.slots.length = c.slots.length
  pins : ∀ i, i < c.slots.length → (slot c' i).pins = (slot c i).pins
  was : ∀ i, i < c.slots.length → (slot c' i).full = true → (slot c i).full = true ∧ (slot c' i).page = (slot c i).page
  keep : ∀ i, i < c.slots.length → 0 < (slot c i).pins → (slot c i).full = true → (slot c' i).full = true ∧ (slot c' i).page = (slot c i).page
theorem Stays.refl (c : Cache) : Stays c c := ⟨rfl, fun _ _ => rfl, fun _ _ h => ⟨h, rfl⟩, fun _ _ _ h => ⟨h, rfl⟩⟩
theorem Stays.trans {a b c : Cache} (h : Stays a b) (k : Stays b c) : Stays a c where
  len := k.len.trans h.len
  pins i hi := (k.pins i (by rw [h.len]; exact hi)).trans (h.pins i hi)
  was i hi hf := by
    obtain ⟨h1, h2⟩ := k.was i (by rw [h.len]; exact hi) hf
    obtain ⟨h3, h4⟩ := h.was i hi h1
    exact ⟨h3, h2.trans h4⟩
  keep i hi hp hf := by
    obtain ⟨h1, h2⟩ := h.keep i hi hp hf
    obtain ⟨h3, h4⟩ := k.keep i (by rw [h.len]; exact hi) (by rw [h.pins i hi]; exact hp) h1
    exact ⟨h3, h4.trans h2⟩
theorem Good.mono {n m : Nat} {V : Int → Pg.Page} {c : Cache} (h : Good n V c) (hm : n ≤ m) : Good m V c := ⟨h.ok.mono hm, h.on, h.geo, h.view, h.slots, h.one, h.free, h.pins, h.stand⟩
theorem slot_set_eq {c : Cache} {i : Nat} {s : Slot} (hi : i < c.slots.length) : slot (set c i s) i = s := by rw [slot_set hi, if_pos rfl]
theorem slot_set_ne {c : Cache} {i j : Nat} {s : Slot} (hi : i < c.slots.length) (h : j ≠ i) : slot (set c i s) j = slot c j := by rw [slot_set hi, if_neg fun e => h e.symm]
/-- a slot is marked: its page, its pins, whether it is full and must be written are as they were -/
theorem Good.mark {n : Nat} {V : Int → Pg.Page} {c : Cache} (h : Good n V c) {i : Nat} (hi : i < c.slots.length) (u : Bool) : Good n V (set c i { slot c i with used := u }) ∧ Stays c (set c i { slot c i with used := u }) := by
  have hs := h.ok.slot hi
  have key : ∀ j, (slot (set c i { slot c i with used := u }) j).page = (slot c j).page ∧ (slot (set c i { slot c i with used := u }) j).full = (slot c j).full ∧ (slot (set c i { slot c i with used := u }) j).dirty = (slot c j).dirty ∧ (slot (set c i { slot c i with used := u }) j).pins = (slot c j).pins := by
    intro j
    rw [slot_set hi]
    split
    · rename_i e; subst e; exact ⟨rfl, rfl, rfl, rfl⟩
    · exact ⟨rfl, rfl, rfl, rfl⟩
  have hl : (set c i { slot c i with used := u }).slots.length = c.slots.length := set_len _ _ _
  refine ⟨⟨h.ok.set i ⟨hs.1, hs.2.1, hs.2.2⟩, h.on, h.geo, h.view, ?_, ?_, ?_, ?_, ?_⟩, ⟨hl, fun j _ => (key j).2.2.2, fun j _ hf => ⟨(key j).2.1 ▸ hf, (key j).1⟩, fun j _ _ hf => ⟨(key j).2.1 ▸ hf, (key j).1⟩⟩⟩
  · intro j hj hf
    rw [hl] at hj; rw [(key j).1]; rw [(key j).2.1] at hf
    exact h.slots j hj hf
  · intro j k hj hk hf hg he
    rw [hl] at hj hk; rw [(key j).2.1] at hf; rw [(key k).2.1] at hg; rw [(key j).1, (key k).1] at he
    exact h.one j k hj hk hf hg he
  · intro j hj hf
    rw [hl] at hj; rw [(key j).2.1] at hf; rw [(key j).2.2.2]
    exact h.free j hj hf
  · intro j hj
    rw [hl] at hj; rw [(key j).2.2.2]
    exact h.pins j hj
  · intro id h1 h2
    rcases h.stand id h1 h2 with ⟨j, hj, hf, hd, he⟩ | hr
    · exact .inl ⟨j, by rw [hl]; exact hj, by rw [(key j).2.1]; exact hf, by rw [(key j).2.2.1]; exact hd, by rw [(key j).1]; exact he⟩
    · exact .inr hr
/-- a slot's page is written: it stands in its block -/
theorem Good.write {n : Nat} {V : Int → Pg.Page} {c : Cache} (h : Good n V c) {i : Nat} (hi : i < c.slots.length) :
    ∃ c', Ch.write c i = (c', 0) ∧ Good (n + 1) V c' ∧ Stays c c' ∧ c'.hand = c.hand ∧ ((slot c' i).full = true → Bk.read c'.disk (slot c' i).page.id.toNat = Pg.sealL (V (slot c' i).page.id) 256) := by
  have hok := h.ok.write hi
  have hgeo := write_geo c i
  by_cases hw : (slot c i).full = true ∧ (slot c i).dirty = true
  · obtain ⟨s1, s2, s3⟩ := h.slots i hi hw.1
    obtain ⟨v1, v2, v3⟩ := h.view _ s1 s2
    have hin : Bk.In c.disk (slot c i).page.id := by unfold Bk.In; rw [h.geo.1]; omega
    have hc := v1
    rw [← s3] at hc
    obtain ⟨-, -, -, k4⟩ := Pg.check_ok hc
    have hlen : (Pg.sealL (slot c i).page c.disk.size).length = c.disk.size := by
      rw [Pg.seal_length (by rw [h.geo.2]; omega)]
    have hput := Bk.put_on (b := Pg.sealL (slot c i).page c.disk.size) hin h.on.1 h.on.2 hlen
    have e : Ch.write c i = ({ set c i { slot c i with dirty := false } with disk := Bk.ticked { c.disk with waiting := c.disk.waiting ++ [((slot c i).page.id.toNat, Pg.sealL (slot c i).page c.disk.size)] } }, 0) := by
      unfold Ch.write
      dsimp only
      rw [if_pos hw, hput]
      rfl
    rw [e] at hok hgeo
    refine ⟨_, e, ?_⟩
    obtain ⟨c', hc'⟩ : ∃ c', ({ set c i { slot c i with dirty := false } with disk := Bk.ticked { c.disk with waiting := c.disk.waiting ++ [((slot c i).page.id.toNat, Pg.sealL (slot c i).page c.disk.size)] } } : Cache) = c' := ⟨_, rfl⟩
    have hrd : ∀ j, Bk.read c'.disk j = if (slot c i).page.id.toNat = j then Pg.sealL (slot c i).page c.disk.size else Bk.read c.disk j := fun j => by
      rw [← hc']
      exact (Bk.read_ticked _ _).trans (Bk.read_wait _ _ _ _)
    have hsl : ∀ j, slot c' j = if i = j then { slot c i with dirty := false } else slot c j := fun j => by
      rw [← hc']; exact slot_set hi j
    have hon : c'.disk.off = false ∧ c'.disk.lit = false := by rw [← hc']; exact h.on
    have hg2 : c'.disk.blocks = 12 ∧ c'.disk.size = 256 := by rw [← hc']; exact h.geo
    have hh : c'.hand = c.hand := by rw [← hc']; rfl
    rw [hc'] at hok hgeo ⊢
    have hl : c'.slots.length = c.slots.length := hgeo.1
    clear hc' e
    have key : ∀ j, (slot c' j).page = (slot c j).page ∧ (slot c' j).full = (slot c j).full ∧ (slot c' j).pins = (slot c j).pins := by
      intro j
      rw [hsl]
      split
      · rename_i e; subst e; exact ⟨rfl, rfl, rfl⟩
      · exact ⟨rfl, rfl, rfl⟩
    have hseal : Pg.sealL (slot c i).page c.disk.size = Pg.sealL (V (slot c i).page.id) 256 := by rw [h.geo.2, ← s3]
    refine ⟨⟨hok, hon, hg2, h.view, ?_, ?_, ?_, ?_, ?_⟩, ⟨hl, fun j _ => (key j).2.2, fun j _ hf => ⟨(key j).2.1 ▸ hf, (key j).1⟩, fun j _ _ hf => ⟨(key j).2.1 ▸ hf, (key j).1⟩⟩, hh, ?_⟩
    · intro j hj hf
      rw [hl] at hj; rw [(key j).1]; rw [(key j).2.1] at hf
      exact h.slots j hj hf
    · intro j k hj hk hf hg he
      rw [hl] at hj hk; rw [(key j).2.1] at hf; rw [(key k).2.1] at hg; rw [(key j).1, (key k).1] at he
      exact h.one j k hj hk hf hg he
    · intro j hj hf
      rw [hl] at hj; rw [(key j).2.1] at hf; rw [(key j).2.2]
      exact h.free j hj hf
    · intro j hj
      rw [hl] at hj; rw [(key j).2.2]
      exact h.pins j hj
    · intro id h1 h2
      by_cases hid : (slot c i).page.id = id
      · subst hid
        exact .inr (by rw [hrd, if_pos rfl, hseal])
      · rcases h.stand id h1 h2 with ⟨j, hj, hf, hd, he⟩ | hr
        · have hij : i ≠ j := fun e => hid (by rw [e]; exact he)
          exact .inl ⟨j, by rw [hl]; exact hj, by rw [(key j).2.1]; exact hf, by rw [hsl, if_neg hij]; exact hd, by rw [(key j).1]; exact he⟩
        · exact .inr (by rw [hrd, if_neg (by omega)]; exact hr)
    · intro _
      rw [(key i).1, hrd, if_pos rfl, hseal]
  · have e : Ch.write c i = (c, 0) := by
      unfold Ch.write
      dsimp only
      rw [if_neg hw]
    refine ⟨c, e, h.mono (Nat.le_succ n), Stays.refl c, rfl, fun hf => ?_⟩
    obtain ⟨s1, s2, s3⟩ := h.slots i hi hf
    rcases h.stand _ s1 s2 with ⟨j, hj, hf2, hd, he⟩ | hr
    · obtain rfl := h.one i j hi hj hf hf2 he.symm
      exact absurd ⟨hf, hd⟩ hw
    · exact hr
/-- a slot whose page stands in its block, and that has no pin, is emptied -/
theorem Good.evict {n : Nat} {V : Int → Pg.Page} {c : Cache} (h : Good n V c) {i : Nat} (hi : i < c.slots.length) (hp : ¬ 0 < (slot c i).pins) (hb : (slot c i).full = true → Bk.read c.disk (slot c i).page.id.toNat = Pg.sealL (V (slot c i).page.id) 256) (k : Nat) (hk : k < c.slots.length) :
    Good n V { set c i Slot.zero with hand := k } ∧ Stays c { set c i Slot.zero with hand := k } := by
  obtain ⟨c', hc'⟩ : ∃ c', ({ set c i Slot.zero with hand := k } : Cache) = c' := ⟨_, rfl⟩
  have hsl : ∀ j, slot c' j = if i = j then Slot.zero else slot c j := fun j => by rw [← hc']; exact slot_set hi j
  have hl : c'.slots.length = c.slots.length := by rw [← hc']; exact set_len _ _ _
  have hd : c'.disk = c.disk := by rw [← hc']; rfl
  have hok : Ok n c' := by
    have h1 := h.ok.set i (Slot.zero_ok c.disk.size)
    rw [← hc']
    exact ⟨h1.len, by rw [set_len]; exact hk, h1.disk, h1.each⟩
  rw [hc']
  have hp0 := h.pins i hi
  clear hc'
  refine ⟨⟨hok, by rw [hd]; exact h.on, by rw [hd]; exact h.geo, h.view, ?_, ?_, ?_, ?_, ?_⟩, ⟨hl, ?_, ?_, ?_⟩⟩
  · intro j hj hf
    rw [hsl] at hf ⊢; rw [hl] at hj
    split at hf
    · cases hf
    · rename_i e; rw [if_neg e]; exact h.slots j hj hf
  · intro j m hj hm hf hg he
    rw [hsl] at hf hg
    rw [hl] at hj hm
    split at hf
    · cases hf
    · split at hg
      · cases hg
      · rename_i e1 e2
        rw [hsl, hsl, if_neg e1, if_neg e2] at he
        exact h.one j m hj hm hf hg he
  · intro j hj hf
    rw [hsl] at hf ⊢; rw [hl] at hj
    split at hf
    · rename_i e; rw [if_pos e]; rfl
    · rename_i e; rw [if_neg e]; exact h.free j hj hf
  · intro j hj
    rw [hl] at hj; rw [hsl]
    split
    · exact Int.le_refl _
    · exact h.pins j hj
  · intro id h1 h2
    rw [hd]
    by_cases hid : (slot c i).full = true ∧ (slot c i).page.id = id
    · have := hb hid.1
      rw [hid.2] at this
      exact .inr this
    · rcases h.stand id h1 h2 with ⟨j, hj, hf, hdj, he⟩ | hr
      · have hij : ¬ i = j := fun e => hid (by rw [e]; exact ⟨hf, he⟩)
        exact .inl ⟨j, by rw [hl]; exact hj, by rw [hsl, if_neg hij]; exact hf, by rw [hsl, if_neg hij]; exact hdj, by rw [hsl, if_neg hij]; exact he⟩
      · exact .inr hr
  · intro j hj
    rw [hsl]
    split
    · rename_i e; subst e; show (0 : Int) = _; omega
    · rfl
  · intro j hj hf
    rw [hsl] at hf ⊢
    split at hf
    · cases hf
    · rename_i e; rw [if_neg e]; exact ⟨hf, rfl⟩
  · intro j hj hpj hf
    rw [hsl]
    split
    · rename_i e; subst e; exact absurd hpj hp
    · exact ⟨hf, rfl⟩
/-- the hand finds a slot if there is one that has no pin -/
theorem Good.round {V : Int → Pg.Page} : ∀ (m : Nat) {n : Nat} {c : Cache} (_ : Good n V c) (k : Nat),
    ((∃ t, t < m ∧ ¬ 0 < (slot c ((c.hand + (k + t)) % c.slots.length)).pins ∧ (slot c ((c.hand + (k + t)) % c.slots.length)).used = false) ∨ (∃ t, t + c.slots.length < m ∧ ¬ 0 < (slot c ((c.hand + (k + t)) % c.slots.length)).pins)) →
    ∃ c' i, Ch.round c k m = (c', i, 0) ∧ Good (n + 1) V c' ∧ Stays c c' ∧ i < c.slots.length ∧ (slot c' i).full = false
  | 0, n, c, h, k, ht => by rcases ht with ⟨t, h1, _⟩ | ⟨t, h1, _⟩ <;> omega
  | m + 1, n, c, h, k, ht => by
    have hl := h.ok.len
    obtain ⟨i, hi0⟩ : ∃ i, (c.hand + k) % c.slots.length = i := ⟨_, rfl⟩
    have hi : i < c.slots.length := by rw [← hi0]; exact Nat.mod_lt _ (by omega)
    have shift : ∀ t, c.hand + (k + (t + 1)) = c.hand + (k + 1 + t) := fun t => by omega
    unfold Ch.round
    dsimp only
    rw [hi0]
    by_cases hp : 0 < (slot c i).pins
    · rw [if_pos hp]
      refine Good.round m h (k + 1) ?_
      rcases ht with ⟨t, h1, h2, h3⟩ | ⟨t, h1, h2⟩
      · cases t with
        | zero => rw [Nat.add_zero, hi0] at h2; exact absurd hp h2
        | succ t => rw [shift] at h2 h3; exact .inl ⟨t, by omega, h2, h3⟩
      · cases t with
        | zero => rw [Nat.add_zero, hi0] at h2; exact absurd hp h2
        | succ t => rw [shift] at h2; exact .inr ⟨t, by omega, h2⟩
    · rw [if_neg hp]
      by_cases hu : (slot c i).used = true
      · rw [if_pos hu]
        obtain ⟨g1, g2⟩ := h.mark hi false
        have hl1 : (set c i { slot c i with used := false }).slots.length = c.slots.length := set_len _ _ _
        have hh1 : (set c i { slot c i with used := false }).hand = c.hand := rfl
        obtain ⟨c', q, r1, r2, r3, r4, r5⟩ := Good.round m g1 (k + 1) (by
          rw [hl1, hh1]
          rcases ht with ⟨t, h1, h2, h3⟩ | ⟨t, h1, h2⟩
          · cases t with
            | zero => rw [Nat.add_zero, hi0, hu] at h3; cases h3
            | succ t =>
              rw [shift] at h2 h3
              have hne : (c.hand + (k + 1 + t)) % c.slots.length ≠ i := fun e => by rw [e, hu] at h3; cases h3
              exact .inl ⟨t, by omega, by rw [slot_set_ne hi hne]; exact h2, by rw [slot_set_ne hi hne]; exact h3⟩
          · cases t with
            | zero =>
              refine .inl ⟨c.slots.length - 1, by omega, ?_, ?_⟩
              all_goals
                rw [show c.hand + (k + 1 + (c.slots.length - 1)) = c.hand + k + c.slots.length by omega, Nat.add_mod_right, hi0, slot_set_eq hi]
              exact hp
            | succ t =>
              rw [shift] at h2
              refine .inr ⟨t, by omega, ?_⟩
              rw [g2.pins _ (Nat.mod_lt _ (by omega))]
              exact h2)
        exact ⟨c', q, r1, r2, g2.trans r3, by rw [hl1] at r4; exact r4, r5⟩
      · rw [if_neg hu]
        obtain ⟨c1, e1, g1, g2, g3, g4⟩ := h.write hi
        rw [e1]
        simp only
        rw [if_pos trivial]
        have hi1 : i < c1.slots.length := by rw [g2.len]; exact hi
        obtain ⟨k1, k2⟩ := g1.evict hi1 (by rw [g2.pins i hi]; exact hp) g4 ((i + 1) % c.slots.length) (by rw [g2.len]; exact Nat.mod_lt _ (by omega))
        refine ⟨_, i, rfl, k1, g2.trans k2, hi, ?_⟩
        show (slot (set c1 i Slot.zero) i).full = false
        rw [slot_set_eq hi1]
        rfl
theorem firstK_none {f : Slot → Bool} {c : Cache} : ∀ {n k}, firstK f c k n = -1 → ∀ i, k ≤ i → i < k + n → f (slot c i) = false
  | 0, k, _, i, h1, h2 => by omega
  | n + 1, k, h, i, h1, h2 => by
    rw [firstK] at h
    split at h
    · omega
    · rename_i hf
      by_cases e : i = k
      · subst e; simpa using hf
      · exact firstK_none h i (by omega) (by omega)
theorem firstK_some {f : Slot → Bool} {c : Cache} : ∀ {n k i}, k ≤ i → i < k + n → f (slot c i) = true → firstK f c k n ≠ -1 := fun {n k i} h1 h2 h3 h => by
  rw [firstK_none h i h1 h2] at h3; cases h3
/-- a page is at hand, at a slot -/
theorem at_cases (c : Cache) (id : Int) : (at_ c id = -1 ∧ ∀ i, i < c.slots.length → (slot c i).full = true → (slot c i).page.id ≠ id) ∨ ∃ i : Nat, at_ c id = (i : Int) ∧ i < c.slots.length ∧ (slot c i).full = true ∧ (slot c i).page.id = id := by
  unfold at_
  rcases firstK_range (has id) c c.slots.length 0 with h | ⟨h1, h2, h3⟩
  · refine .inl ⟨h, fun i hi hf he => ?_⟩
    have := firstK_none h i (Nat.zero_le _) (by omega)
    unfold has at this
    simp [hf, he] at this
  · refine .inr ⟨(firstK (has id) c 0 c.slots.length).toNat, by omega, by omega, ?_⟩
    have h4 : ((slot c (firstK (has id) c 0 c.slots.length).toNat).full && decide ((slot c (firstK (has id) c 0 c.slots.length).toNat).page.id = id)) = true := h3
    rw [Bool.and_eq_true, decide_eq_true_eq] at h4
    exact h4
theorem Good.room {n : Nat} {V : Int → Pg.Page} {c : Cache} (h : Good n V c) (hf : pinned c < c.slots.length) :
    ∃ c' i, Ch.room c = (c', i, 0) ∧ Good (n + 1) V c' ∧ Stays c c' ∧ i < c.slots.length ∧ (slot c' i).full = false := by
  unfold Ch.room empty
  rcases firstK_range (fun s => !s.full) c c.slots.length 0 with h1 | ⟨h1, h2, h3⟩
  · rw [if_neg (by omega)]
    have hl := h.ok.len
    have hh := h.ok.hand
    obtain ⟨u, hu, hp⟩ := cnt_free hf
    have hp' : ¬ 0 < (slot c u).pins := by simpa using hp
    refine Good.round _ h 0 (.inr ⟨if c.hand ≤ u then u - c.hand else u + c.slots.length - c.hand, by split <;> omega, ?_⟩)
    have e : (c.hand + (0 + if c.hand ≤ u then u - c.hand else u + c.slots.length - c.hand)) % c.slots.length = u := by
      split
      · rw [show c.hand + (0 + (u - c.hand)) = u by omega]; exact Nat.mod_eq_of_lt hu
      · rw [show c.hand + (0 + (u + c.slots.length - c.hand)) = u + c.slots.length by omega, Nat.add_mod_right]; exact Nat.mod_eq_of_lt hu
    rw [e]
    exact hp'
  · have h1' : (0 : Int) ≤ firstK (fun s => !s.full) c 0 c.slots.length := by omega
    rw [if_pos h1']
    refine ⟨c, _, rfl, h.mono (Nat.le_succ n), Stays.refl c, by omega, by simpa using h3⟩
theorem openAt_seal {p : Pg.Page} (hc : Pg.checkC p (256 : Nat) = 0) (hg : p.gen < 18446744073709551616) : Pg.openAtL (Pg.sealL p 256) p.id = (p, 0, -1) := by
  obtain ⟨h1, h2⟩ := Pg.opens_seal hc hg
  unfold Pg.openAtL
  rw [Pg.open_page h1, h2]
  simp
/-- a page is at hand behind load -/
theorem Good.load {n : Nat} {V : Int → Pg.Page} {c : Cache} (h : Good n V c) {id : Int} (h2 : 2 ≤ id) (h7 : id ≤ 7) (hf : pinned c < c.slots.length ∨ 0 ≤ at_ c id) :
    ∃ c' i, Ch.load c id = (c', i, 0) ∧ Good (n + 1) V c' ∧ i < c.slots.length ∧ (slot c' i).full = true ∧ (slot c' i).page = V id ∧ c'.slots.length = c.slots.length ∧ (∀ j, j < c.slots.length → (slot c' j).pins = (slot c j).pins) ∧
      (∀ j, j < c.slots.length → 0 < (slot c j).pins → (slot c j).full = true → (slot c' j).full = true ∧ (slot c' j).page = (slot c j).page) := by
  unfold Ch.load
  rcases at_cases c id with ⟨ha, hno⟩ | ⟨i, ha, hi, hfull, hid⟩
  · rw [ha] at hf ⊢
    rw [if_neg (by decide)]
    obtain ⟨c1, i, e1, g1, s1, hi, he⟩ := h.room (by rcases hf with hf | hf; exact hf; omega)
    obtain ⟨v1, v2, v3⟩ := h.view id h2 h7
    have hno1 : ∀ j, j < c1.slots.length → (slot c1 j).full = true → (slot c1 j).page.id ≠ id := fun j hj hfj => by
      rw [s1.len] at hj
      obtain ⟨x1, x2⟩ := s1.was j hj hfj
      rw [x2]; exact hno j hj x1
    have hread : Bk.read c1.disk id.toNat = Pg.sealL (V id) 256 := by
      rcases g1.stand id h2 h7 with ⟨j, hj, hfj, _, hej⟩ | hr
      · exact absurd hej (hno1 j hj hfj)
      · exact hr
    rw [e1]
    simp only
    rw [if_neg (by simp), if_neg (by rw [g1.on.1]; decide), hread]
    have ho := openAt_seal v1 v2
    rw [v3] at ho
    rw [ho]
    simp only
    rw [if_neg (by simp)]
    have hi1 : i < c1.slots.length := by rw [s1.len]; exact hi
    refine ⟨_, i, rfl, ?_, hi, by rw [slot_set_eq hi1], by rw [slot_set_eq hi1], by rw [set_len, s1.len], ?_, ?_⟩
    · have hsl := fun j => slot_set (s := ⟨V id, true, false, true, 0⟩) hi1 j
      obtain ⟨c', hc'⟩ : ∃ c', set c1 i ⟨V id, true, false, true, 0⟩ = c' := ⟨_, rfl⟩
      have hl : c'.slots.length = c1.slots.length := by rw [← hc']; exact set_len _ _ _
      have hd : c'.disk = c1.disk := by rw [← hc']; rfl
      have hbl : (V id).body.length ≤ 100000 := by have := (Pg.check_ok v1).2.2.2; omega
      have hok : Ok (n + 1) c' := by rw [← hc']; exact g1.ok.set i ⟨v2, hbl, fun _ => by rw [g1.geo.2]; exact v1⟩
      rw [hc'] at hsl ⊢
      clear hc'
      refine ⟨hok, by rw [hd]; exact g1.on, by rw [hd]; exact g1.geo, g1.view, ?_, ?_, ?_, ?_, ?_⟩
      · intro j hj hfj
        rw [hl] at hj
        rw [hsl] at hfj ⊢
        by_cases e : i = j
        · rw [if_pos e]; exact ⟨by show 2 ≤ (V id).id; omega, by show (V id).id ≤ 7; omega, by show V id = V (V id).id; rw [v3]⟩
        · rw [if_neg e] at hfj ⊢; exact g1.slots j hj hfj
      · intro j m hj hm hfj hfm hee
        rw [hl] at hj hm
        rw [hsl] at hfj hfm
        rw [hsl, hsl] at hee
        by_cases e1 : i = j
        · by_cases e2 : i = m
          · omega
          · rw [if_pos e1, if_neg e2] at hee; rw [if_neg e2] at hfm
            exact absurd (hee.symm.trans v3) (hno1 m hm hfm)
        · by_cases e2 : i = m
          · rw [if_neg e1, if_pos e2] at hee; rw [if_neg e1] at hfj
            exact absurd (hee.trans v3) (hno1 j hj hfj)
          · rw [if_neg e1, if_neg e2] at hee; rw [if_neg e1] at hfj; rw [if_neg e2] at hfm
            exact g1.one j m hj hm hfj hfm hee
      · intro j hj hfj
        rw [hl] at hj
        rw [hsl] at hfj ⊢
        by_cases e : i = j
        · rw [if_pos e] at hfj; cases hfj
        · rw [if_neg e] at hfj ⊢; exact g1.free j hj hfj
      · intro j hj
        rw [hl] at hj
        rw [hsl]
        split
        · exact Int.le_refl _
        · exact g1.pins j hj
      · intro id' k1 k2
        rw [hd]
        rcases g1.stand id' k1 k2 with ⟨j, hj, hfj, hdj, hej⟩ | hr
        · have e : ¬ i = j := fun e => by rw [← e, he] at hfj; cases hfj
          exact .inl ⟨j, by rw [hl]; exact hj, by rw [hsl, if_neg e]; exact hfj, by rw [hsl, if_neg e]; exact hdj, by rw [hsl, if_neg e]; exact hej⟩
        · exact .inr hr
    · intro j hj
      rw [slot_set hi1]
      split
      · rename_i e; subst e
        have := g1.free i hi1 he
        rw [s1.pins i hj] at this
        exact this.symm
      · exact s1.pins j hj
    · intro j hj hp hfj
      obtain ⟨x1, x2⟩ := s1.keep j hj hp hfj
      have e : ¬ i = j := fun e => by rw [← e, he] at x1; cases x1
      rw [slot_set hi1, if_neg e]
      exact ⟨x1, x2⟩
  · rw [ha, if_pos (by omega), Int.toNat_natCast]
    obtain ⟨g1, g2⟩ := h.mark hi true
    have hs := h.slots i hi hfull
    refine ⟨_, i, rfl, g1.mono (Nat.le_succ n), hi, by rw [slot_set_eq hi]; exact hfull, ?_, g2.len, g2.pins, g2.keep⟩
    rw [slot_set_eq hi]
    show (slot c i).page = V id
    rw [hs.2.2, hid]
theorem in_of_geo {n : Nat} {V : Int → Pg.Page} {c : Cache} (h : Good n V c) {id : Int} (h2 : 2 ≤ id) (h7 : id ≤ 7) : Bk.In c.disk id := by unfold Bk.In; rw [h.geo.1]; omega
theorem pinned_congr {c c' : Cache} (hl : c'.slots.length = c.slots.length) (h : ∀ j, j < c.slots.length → (slot c' j).pins = (slot c j).pins) : pinned c' = pinned c := by
  unfold pinned
  rw [hl]
  exact cnt_congr fun i hi => by rw [h i hi]
/-- what is got is what the page is -/
theorem Good.get {n : Nat} {V : Int → Pg.Page} {c : Cache} (h : Good n V c) {id : Int} (h2 : 2 ≤ id) (h7 : id ≤ 7) (hf : pinned c < c.slots.length) :
    ∃ c', Ch.get c id = (c', V id, 0) ∧ Good (n + 1) V c' ∧ c'.slots.length = c.slots.length ∧ (∀ j, j < c.slots.length → (slot c' j).pins = (slot c j).pins) ∧
      (∀ j, j < c.slots.length → 0 < (slot c j).pins → (slot c j).full = true → (slot c' j).full = true ∧ (slot c' j).page = (slot c j).page) ∧ 0 ≤ at_ c' id := by
  obtain ⟨c', i, e, g, hi, k1, k2, k3, k4, k5⟩ := h.load h2 h7 (.inl hf)
  have hat : 0 ≤ at_ c' id := by
    rcases at_cases c' id with ⟨_, hno⟩ | ⟨j, ha, _⟩
    · exact absurd (by rw [k2, (h.view id h2 h7).2.2]) (hno i (by rw [k3]; exact hi) k1)
    · omega
  refine ⟨c', ?_, g, k3, k4, k5, hat⟩
  unfold Ch.get
  rw [if_pos (in_of_geo h h2 h7), e]
  simp only
  rw [if_pos trivial, k2]
/-- a page that is put is what is there -/
theorem Good.put {n : Nat} {V : Int → Pg.Page} {c : Cache} (h : Good n V c) (p : Pg.Page) (h2 : 2 ≤ p.id) (h7 : p.id ≤ 7) (hc : Pg.checkC p (256 : Nat) = 0) (hg : p.gen < 18446744073709551616) (hf : pinned c < c.slots.length) :
    ∃ c', Ch.put c p = (c', 0) ∧ Good (n + 1) (fun id => if id = p.id then p else V id) c' ∧ c'.slots.length = c.slots.length ∧ (∀ j, j < c.slots.length → (slot c' j).pins = (slot c j).pins) := by
  have pl : ∃ c1 i, place c p.id = (c1, i, 0) ∧ Good (n + 1) V c1 ∧ Stays c c1 ∧ i < c.slots.length ∧ (∀ j, j < c1.slots.length → (slot c1 j).full = true → (slot c1 j).page.id = p.id → j = i) ∧ ((slot c1 i).full = true → (slot c1 i).page.id = p.id) := by
    unfold place
    rcases at_cases c p.id with ⟨ha, hno⟩ | ⟨i, ha, hi, hfull, hid⟩
    · rw [ha, if_neg (by decide)]
      obtain ⟨c1, i, e1, g1, s1, hi, he⟩ := h.room hf
      refine ⟨c1, i, e1, g1, s1, hi, fun j hj hfj hej => ?_, fun hx => by rw [he] at hx; cases hx⟩
      rw [s1.len] at hj
      obtain ⟨x1, x2⟩ := s1.was j hj hfj
      rw [x2] at hej
      exact absurd hej (hno j hj x1)
    · rw [ha, if_pos (by omega), Int.toNat_natCast]
      exact ⟨c, i, rfl, h.mono (Nat.le_succ n), Stays.refl c, hi, fun j hj hfj hej => h.one j i hj hi hfj hfull (hej.trans hid.symm), fun _ => hid⟩
  obtain ⟨c1, i, e1, g1, s1, hi, hun, hown⟩ := pl
  have hi1 : i < c1.slots.length := by rw [s1.len]; exact hi
  have e : Ch.put c p = (set c1 i ⟨p, true, true, true, (slot c1 i).pins⟩, 0) := by
    unfold Ch.put
    rw [if_pos (in_of_geo h h2 h7), h.geo.2, if_pos hc, e1]
    simp only
    rw [if_pos trivial]
  refine ⟨_, e, ?_, by rw [set_len, s1.len], ?_⟩
  · have hsl := fun j => slot_set (s := ⟨p, true, true, true, (slot c1 i).pins⟩) hi1 j
    obtain ⟨c', hc'⟩ : ∃ c', set c1 i ⟨p, true, true, true, (slot c1 i).pins⟩ = c' := ⟨_, rfl⟩
    have hl : c'.slots.length = c1.slots.length := by rw [← hc']; exact set_len _ _ _
    have hd : c'.disk = c1.disk := by rw [← hc']; rfl
    have hbl : p.body.length ≤ 100000 := by have := (Pg.check_ok hc).2.2.2; omega
    have hok : Ok (n + 1) c' := by rw [← hc']; exact g1.ok.set i ⟨hg, hbl, fun _ => by rw [g1.geo.2]; exact hc⟩
    rw [hc'] at hsl ⊢
    clear hc' e
    have hother : ∀ j, j < c1.slots.length → ¬ i = j → (slot c1 j).full = true → (slot c1 j).page.id ≠ p.id := fun j hj hij hfj hej => hij (hun j hj hfj hej).symm
    refine ⟨hok, by rw [hd]; exact g1.on, by rw [hd]; exact g1.geo, ?_, ?_, ?_, ?_, ?_, ?_⟩
    · intro id k1 k2
      by_cases e : id = p.id
      · simp only [if_pos e]; exact ⟨hc, hg, e.symm⟩
      · simp only [if_neg e]; exact g1.view id k1 k2
    · intro j hj hfj
      rw [hl] at hj
      rw [hsl] at hfj ⊢
      by_cases e : i = j
      · rw [if_pos e]; exact ⟨h2, h7, by simp⟩
      · rw [if_neg e] at hfj ⊢
        obtain ⟨x1, x2, x3⟩ := g1.slots j hj hfj
        refine ⟨x1, x2, ?_⟩
        simp only [if_neg (hother j hj e hfj)]
        exact x3
    · intro j m hj hm hfj hfm hee
      rw [hl] at hj hm
      rw [hsl] at hfj hfm
      rw [hsl, hsl] at hee
      by_cases e1 : i = j
      · by_cases e2 : i = m
        · omega
        · rw [if_pos e1, if_neg e2] at hee; rw [if_neg e2] at hfm
          exact absurd hee.symm (hother m hm e2 hfm)
      · by_cases e2 : i = m
        · rw [if_neg e1, if_pos e2] at hee; rw [if_neg e1] at hfj
          exact absurd hee (hother j hj e1 hfj)
        · rw [if_neg e1, if_neg e2] at hee; rw [if_neg e1] at hfj; rw [if_neg e2] at hfm
          exact g1.one j m hj hm hfj hfm hee
    · intro j hj hfj
      rw [hl] at hj
      rw [hsl] at hfj ⊢
      by_cases e : i = j
      · rw [if_pos e] at hfj; cases hfj
      · rw [if_neg e] at hfj ⊢; exact g1.free j hj hfj
    · intro j hj
      rw [hl] at hj
      rw [hsl]
      split
      · exact g1.pins i hi1
      · exact g1.pins j hj
    · intro id' k1 k2
      rw [hd]
      by_cases e : id' = p.id
      · exact .inl ⟨i, by rw [hl]; exact hi1, by rw [hsl, if_pos rfl], by rw [hsl, if_pos rfl], by rw [hsl, if_pos rfl]; exact e.symm⟩
      · simp only [if_neg e]
        rcases g1.stand id' k1 k2 with ⟨j, hj, hfj, hdj, hej⟩ | hr
        · have e2 : ¬ i = j := by
            rintro rfl
            exact e (hej.symm.trans (hown hfj))
          exact .inl ⟨j, by rw [hl]; exact hj, by rw [hsl, if_neg e2]; exact hfj, by rw [hsl, if_neg e2]; exact hdj, by rw [hsl, if_neg e2]; exact hej⟩
        · exact .inr hr
  · intro j hj
    rw [slot_set hi1]
    split
    · rename_i e; subst e; exact s1.pins i hj
    · exact s1.pins j hj
end Ch
end Go.Proofs.YtflbioiildndoaaGreatDoor

/- the plain law of the statements of caches: the disk that is made, awake, what is kept, pins, a burst -/
namespace Go.Proofs.YtflbioiildndoaaGreatDoor

theorem changed_first8 (l : List UInt8) (bit : Nat) (mask : BitVec 32) (h0 : mask.getLsbD 0 = true) : ∀ k, (Crc.bitsOf (changed l bit mask (k + 1)))[bit]? = ((Crc.bitsOf l)[bit]?).map (! ·)
  | 0 => by
    simp only [changed, h0, if_true]
    rw [flip_bits, if_pos (by omega)]
  | k + 1 => by
    have ih := changed_first8 l bit mask h0 k
    rw [changed]
    split
    · rw [flip_bits, if_neg (by omega)]; exact ih
    · exact ih
theorem changed_ne8 (l : List UInt8) (bit : Nat) (mask : BitVec 32) (h0 : mask.getLsbD 0 = true) (hb : bit / 8 < l.length) : l ≠ changed l bit mask 32 := by
  intro h
  have h1 := changed_first8 l bit mask h0 31
  rw [← h, Crc.bitsOf_get, List.getElem?_eq_getElem hb] at h1
  simp at h1
theorem burst_open8 {L : List UInt8} (h : Pg.opens L) (bit : Nat) (mask : BitVec 32) (hne : L ≠ changed L bit mask 32) : ¬ Pg.opens (changed L bit mask 32) := by
  intro h2
  exact hne (changed_sum L bit mask ((Pg.sum_opens h).trans (Pg.sum_opens h2).symm))
theorem burst_openAt8 {L : List UInt8} (h : Pg.opens L) (bit : Nat) (mask : BitVec 32) (hne : L ≠ changed L bit mask 32) (id : Int) : ∃ X, Pg.openAtL (changed L bit mask 32) id = (Pg.zero, 5, X) := by
  have h1 := burst_open8 h bit mask hne
  have h2 := (Pg.check_ok h.1).1
  have hl := changed_length L bit mask 32
  refine ⟨Pg.named (changed L bit mask 32), ?_⟩
  have e : Pg.openL (changed L bit mask 32) = (Pg.zero, 5, Pg.named (changed L bit mask 32)) := by
    unfold Pg.openL
    rw [if_neg (by unfold Pg.sized; simp; omega), if_neg h1]
  unfold Pg.openAtL
  rw [e]
  simp

namespace Ch
/-- a leaf of the statements -/
def leafP (id : Int) (f : UInt8) : Pg.Page := ⟨3, id, 1, [f]⟩
theorem leaf_ok {id : Int} (f : UInt8) (h0 : 0 ≤ id) (h1 : id ≤ 255) : Pg.checkC (leafP id f) (256 : Nat) = 0 := Pg.check_mk (by decide) (by decide : (1 : Int) ≤ 3 ∧ (3 : Int) ≤ 5) ⟨h0, h1⟩ (by show (((1 : Nat) : Int)) ≤ _; decide)
theorem leaf_seal {id : Int} (f : UInt8) : (Pg.sealL (leafP id f) 256).length = 256 := Pg.seal_length (by show 24 + 1 ≤ 256; decide)
/-- pages as the statements have them first -/
def V0 (id : Int) : Pg.Page := leafP id (UInt8.ofNat id.toNat)
/-- the disk of 'made' behind the first k writes -/
def madeD : Nat → Bk.Disk
  | 0 => Bk.new 12 256
  | k + 1 => (Bk.put (madeD k) ((k : Int) + 2) (Pg.sealL (V0 ((k : Int) + 2)) 256)).1
/-- a disk on which pages 2 and so many behind it stand -/
structure Made (n k : Nat) (d : Bk.Disk) : Prop where
  ok : Bk.Ok n d
  on : d.off = false ∧ d.lit = false
  geo : d.blocks = 12 ∧ d.size = 256
  stand : ∀ i : Nat, 2 ≤ i → i < k + 2 → Bk.read d i = Pg.sealL (V0 (i : Int)) 256
theorem madeD_put {k : Nat} (hk : k < 6) (h : Made k k (madeD k)) : Bk.put (madeD k) ((k : Int) + 2) (Pg.sealL (V0 ((k : Int) + 2)) 256) = (madeD (k + 1), 0) ∧ Made (k + 1) (k + 1) (madeD (k + 1)) := by
  have hp := Bk.put_on (d := madeD k) (i := (k : Int) + 2) (b := Pg.sealL (V0 ((k : Int) + 2)) 256) (by unfold Bk.In; rw [h.geo.1]; omega) h.on.1 h.on.2 (by rw [h.geo.2]; exact leaf_seal _)
  have hok := h.ok.put ((k : Int) + 2) (Pg.sealL (V0 ((k : Int) + 2)) 256)
  have e : madeD (k + 1) = Bk.ticked { madeD k with waiting := (madeD k).waiting ++ [(((k : Int) + 2).toNat, Pg.sealL (V0 ((k : Int) + 2)) 256)] } := by
    show (Bk.put (madeD k) ((k : Int) + 2) (Pg.sealL (V0 ((k : Int) + 2)) 256)).1 = _
    rw [hp]
  refine ⟨by rw [hp, e], by rw [hp] at hok; rw [e]; exact hok, by rw [e]; exact h.on, by rw [e]; exact h.geo, fun i h2 hi => ?_⟩
  rw [e, Bk.read_ticked, Bk.read_wait]
  by_cases hik : ((k : Int) + 2).toNat = i
  · rw [if_pos hik, show (k : Int) + 2 = (i : Int) by omega]
  · rw [if_neg hik]; exact h.stand i h2 (by omega)
theorem madeD_ok : ∀ {k : Nat}, k ≤ 6 → Made k k (madeD k)
  | 0, _ => ⟨Bk.Ok.new (by omega) (by omega), ⟨rfl, rfl⟩, ⟨rfl, rfl⟩, fun i h2 hi => by omega⟩
  | k + 1, h => (madeD_put (by omega) (madeD_ok (by omega))).2
theorem new_slot (d : Bk.Disk) (n i : Nat) : slot (new d n) i = Slot.zero := by
  unfold slot new
  rw [List.getD_eq_getElem?_getD, List.getElem?_replicate]
  split <;> rfl
theorem new_ok {m n : Nat} {d : Bk.Disk} (h : Bk.Ok m d) (h3 : 3 ≤ n) (h6 : n ≤ 64) : Ok m (new d n) := by
  have hl : (new d n).slots.length = n := by unfold new; simp
  refine ⟨by rw [hl]; omega, by rw [hl]; show 0 < n; omega, h, fun i s hs => ?_⟩
  have hi : i < (new d n).slots.length := (List.getElem?_eq_some_iff.1 hs).1
  have e := slot_at hi
  rw [hs] at e
  rw [Option.some.inj e, new_slot]
  exact Slot.zero_ok _
theorem new_good {m n : Nat} {d : Bk.Disk} (h : Made m 6 d) (h3 : 3 ≤ n) (h6 : n ≤ 6) : Good m V0 (new d n) ∧ (new d n).slots.length = n ∧ ∀ i, (slot (new d n) i).pins = 0 := by
  have hl : (new d n).slots.length = n := by unfold new; simp
  refine ⟨⟨new_ok h.ok h3 (by omega), h.on, h.geo, fun id h2 h7 => ⟨leaf_ok _ (by omega) (by omega), by show 1 < _; decide, rfl⟩, ?_, ?_, ?_, ?_, ?_⟩, hl, ?_⟩
  · intro i hi hf; rw [new_slot] at hf; cases hf
  · intro i j hi hj hf; rw [new_slot] at hf; cases hf
  · intro i hi hf; rw [new_slot]; rfl
  · intro i hi; rw [new_slot]; exact Int.le_refl _
  · intro id h2 h7
    refine .inr ?_
    have := h.stand id.toNat (by omega) (by omega)
    rw [show ((id.toNat : Nat) : Int) = id by omega] at this
    exact this
  · intro i; rw [new_slot]; rfl
theorem pinned_none {c : Cache} (h : ∀ i, i < c.slots.length → (slot c i).pins = 0) : pinned c = 0 := by
  unfold pinned
  exact cnt_zero fun i hi => by rw [h i hi]; decide

/-! ### awake -/
theorem awake_run {d : Bk.Disk} (h : Made 6 6 d) : ∃ c1 c2, put (new d 3) (leafP 2 9) = (c1, 0) ∧ get c1 2 = (c2, leafP 2 9, 0) ∧ dirty c2 = 1 ∧ Ok 7 c1 ∧ Ok 8 c2 ∧ Ok 6 (new d 3) := by
  obtain ⟨g0, l0, p0⟩ := new_good h (Nat.le_refl 3) (by decide)
  have e1 : put (new d 3) (leafP 2 9) = (⟨[⟨leafP 2 9, true, true, true, 0⟩, Slot.zero, Slot.zero], 0, d⟩, 0) := by
    unfold put
    rw [if_pos (show Bk.In (new d 3).disk (leafP 2 9).id by unfold Bk.In; rw [show (new d 3).disk.blocks = 12 from h.geo.1]; decide), show (new d 3).disk.size = 256 from h.geo.2, if_pos (leaf_ok 9 (by decide) (by decide))]
    rfl
  obtain ⟨c1, e2, g1, k1, k2⟩ := g0.put (leafP 2 9) (by decide) (by decide) (leaf_ok 9 (by decide) (by decide)) (by decide) (by rw [pinned_none fun i _ => p0 i, l0]; decide)
  rw [e1] at e2
  obtain ⟨rfl, -⟩ := Prod.mk.inj e2
  obtain ⟨c2, e3, g2, k3, k4, k5⟩ := g1.get (id := 2) (by decide) (by decide) (by rw [pinned_none fun i hi => (k2 i (by rw [k1] at hi; exact hi)).trans (p0 i)]; show 0 < 3; decide)
  have e4 : get ⟨[⟨leafP 2 9, true, true, true, 0⟩, Slot.zero, Slot.zero], 0, d⟩ 2 = (⟨[⟨leafP 2 9, true, true, true, 0⟩, Slot.zero, Slot.zero], 0, d⟩, leafP 2 9, 0) := by
    unfold get
    rw [if_pos (show Bk.In d 2 by unfold Bk.In; rw [h.geo.1]; decide)]
    rfl
  rw [e4] at e3
  obtain ⟨rfl, -⟩ := Prod.mk.inj e3
  exact ⟨_, _, e1, e4, rfl, g1.ok, g2.ok, g0.ok⟩

/-! ### what is kept -/
theorem Good.congr {n : Nat} {V V' : Int → Pg.Page} {c : Cache} (h : Good n V c) (e : ∀ id, 2 ≤ id → id ≤ 7 → V id = V' id) : Good n V' c where
  ok := h.ok
  on := h.on
  geo := h.geo
  view id h2 h7 := by rw [← e id h2 h7]; exact h.view id h2 h7
  slots i hi hf := by
    obtain ⟨s1, s2, s3⟩ := h.slots i hi hf
    exact ⟨s1, s2, by rw [← e _ s1 s2]; exact s3⟩
  one := h.one
  free := h.free
  pins := h.pins
  stand id h2 h7 := by rw [← e id h2 h7]; exact h.stand id h2 h7
/-- pages by a list of fills -/
def viewL (L : List UInt8) (id : Int) : Pg.Page := leafP id (L.getD id.toNat 0)
/-- a cache that has no pin, and whose pages are by a list of fills -/
structure Keep (n : Nat) (L : List UInt8) (s : Nat) (c : Cache) : Prop where
  good : Good n (viewL L) c
  len : c.slots.length = s
  none : ∀ i, i < c.slots.length → (slot c i).pins = 0
  row : L.length = 12
  many : 3 ≤ s ∧ s ≤ 6
theorem Keep.free {n s : Nat} {L : List UInt8} {c : Cache} (h : Keep n L s c) : pinned c < c.slots.length := by rw [pinned_none h.none, h.len]; have := h.many; omega
theorem Keep.held {n s : Nat} {L : List UInt8} {c : Cache} (h : Keep n L s c) : (held c).length ≤ s := by
  unfold Ch.held
  rw [List.length_map, ← h.len]
  exact List.length_filter_le _ _
theorem Keep.get {n s : Nat} {L : List UInt8} {c : Cache} (h : Keep n L s c) {id : Int} (h2 : 2 ≤ id) (h7 : id ≤ 7) : ∃ c', get c id = (c', viewL L id, 0) ∧ Keep (n + 1) L s c' := by
  obtain ⟨c', e, g, k1, k2, _, _⟩ := h.good.get h2 h7 h.free
  exact ⟨c', e, g, k1.trans h.len, fun i hi => (k2 i (by rw [k1] at hi; exact hi)).trans (h.none i (by rw [k1] at hi; exact hi)), h.row, h.many⟩
theorem Keep.put {n s : Nat} {L : List UInt8} {c : Cache} (h : Keep n L s c) {id : Int} (h2 : 2 ≤ id) (h7 : id ≤ 7) (f : UInt8) : ∃ c', put c (leafP id f) = (c', 0) ∧ Keep (n + 1) (L.set id.toNat f) s c' := by
  obtain ⟨c', e, g, k1, k2⟩ := h.good.put (leafP id f) h2 h7 (leaf_ok f (by omega) (by omega)) (by show 1 < _; decide) h.free
  refine ⟨c', e, g.congr fun j j2 j7 => ?_, k1.trans h.len, fun i hi => (k2 i (by rw [k1] at hi; exact hi)).trans (h.none i (by rw [k1] at hi; exact hi)), by rw [List.length_set]; exact h.row, h.many⟩
  unfold viewL
  rw [List.getD_eq_getElem?_getD, List.getD_eq_getElem?_getD, List.getElem?_set]
  by_cases hj : j = id
  · subst hj
    rw [if_pos rfl, if_pos (show j = (leafP j f).id from rfl), if_pos (by rw [h.row]; omega)]
    rfl
  · rw [if_neg (show ¬ j = (leafP id f).id from hj), if_neg (show ¬ id.toNat = j.toNat by omega)]
theorem Keep.new {s : Nat} {d : Bk.Disk} (h : Made 6 6 d) (hs : 3 ≤ s ∧ s ≤ 6) : Keep 6 [0, 0, 2, 3, 4, 5, 6, 7, 0, 0, 0, 0] s (new d s) := by
  obtain ⟨g, hl, hp⟩ := new_good h hs.1 hs.2
  refine ⟨g.congr fun id h2 h7 => ?_, hl, fun i _ => hp i, rfl, hs⟩
  have : id = 2 ∨ id = 3 ∨ id = 4 ∨ id = 5 ∨ id = 6 ∨ id = 7 := by omega
  rcases this with rfl | rfl | rfl | rfl | rfl | rfl <;> rfl

/-! ### pins -/
/-- page 7 has a pin, and k - 1 others, all of numbers up to k -/
structure PinOk (n k s : Nat) (c : Cache) : Prop where
  good : Good n V0 c
  len : c.slots.length = s
  many : 3 ≤ s ∧ s ≤ 6
  count : pinned c = k
  seven : ∃ i, i < c.slots.length ∧ (slot c i).full = true ∧ (slot c i).page.id = 7 ∧ 0 < (slot c i).pins
  which : ∀ i, i < c.slots.length → 0 < (slot c i).pins → (slot c i).pins = 1 ∧ (slot c i).full = true ∧ ((slot c i).page.id = 7 ∨ (slot c i).page.id ≤ (k : Int))
/-- a slot gets a pin -/
theorem Good.pin1 {n : Nat} {V : Int → Pg.Page} {c : Cache} (h : Good n V c) {i : Nat} (hi : i < c.slots.length) (hf : (slot c i).full = true) (h0 : (slot c i).pins = 0) :
    Good n V (set c i { slot c i with pins := 1 }) ∧ pinned (set c i { slot c i with pins := 1 }) = pinned c + 1 ∧ ∀ j, slot (set c i { slot c i with pins := 1 }) j = if i = j then { slot c i with pins := 1 } else slot c j := by
  have hs := h.ok.slot hi
  have hsl := fun j => slot_set (s := { slot c i with pins := 1 }) hi j
  have key : ∀ j, (slot (set c i { slot c i with pins := 1 }) j).page = (slot c j).page ∧ (slot (set c i { slot c i with pins := 1 }) j).full = (slot c j).full ∧ (slot (set c i { slot c i with pins := 1 }) j).dirty = (slot c j).dirty := by
    intro j
    rw [hsl]
    split
    · rename_i e; subst e; exact ⟨rfl, rfl, rfl⟩
    · exact ⟨rfl, rfl, rfl⟩
  have hl : (set c i { slot c i with pins := 1 }).slots.length = c.slots.length := set_len _ _ _
  refine ⟨⟨h.ok.set i ⟨hs.1, hs.2.1, hs.2.2⟩, h.on, h.geo, h.view, ?_, ?_, ?_, ?_, ?_⟩, ?_, hsl⟩
  · intro j hj hf
    rw [hl] at hj; rw [(key j).1]; rw [(key j).2.1] at hf
    exact h.slots j hj hf
  · intro j k hj hk hf hg he
    rw [hl] at hj hk; rw [(key j).2.1] at hf; rw [(key k).2.1] at hg; rw [(key j).1, (key k).1] at he
    exact h.one j k hj hk hf hg he
  · intro j hj hfj
    rw [hl] at hj; rw [(key j).2.1] at hfj
    have e : ¬ i = j := fun e => by rw [← e, hf] at hfj; cases hfj
    rw [hsl, if_neg e]
    exact h.free j hj hfj
  · intro j hj
    rw [hl] at hj; rw [hsl]
    split
    · show (0 : Int) ≤ 1; decide
    · exact h.pins j hj
  · intro id h1 h2
    rcases h.stand id h1 h2 with ⟨j, hj, hf, hd, he⟩ | hr
    · exact .inl ⟨j, by rw [hl]; exact hj, by rw [(key j).2.1]; exact hf, by rw [(key j).2.2]; exact hd, by rw [(key j).1]; exact he⟩
    · exact .inr hr
  · unfold pinned
    rw [hl]
    refine cnt_more (i := i) (by rw [h0]; decide) (by rw [hsl, if_pos rfl]; rfl) (fun j hj => ?_) hi
    rw [hsl, if_neg fun e => hj e.symm]
theorem pin_is {n : Nat} {V : Int → Pg.Page} {c c' : Cache} {id : Int} {i : Nat} (g : Good n V c) (h2 : 2 ≤ id) (h7 : id ≤ 7) (he : load c id = (c', i, 0)) (h0 : (slot c' i).pins = 0) : pin c id = (set c' i { slot c' i with pins := 1 }, 0) := by
  unfold pin
  rw [if_pos (in_of_geo g h2 h7), he]
  simp only
  rw [if_pos trivial, h0]
  rfl
/-- the first pin -/
theorem pin_first {s : Nat} {d : Bk.Disk} (h : Made 6 6 d) (hs : 3 ≤ s ∧ s ≤ 6) : ∃ c', pin (new d s) 7 = (c', 0) ∧ PinOk 7 1 s c' := by
  obtain ⟨g, hl, hp⟩ := new_good h hs.1 hs.2
  have hn : pinned (new d s) = 0 := pinned_none fun i _ => hp i
  obtain ⟨c', i, e, g1, hi, k1, k2, k3, k4, k5⟩ := g.load (id := 7) (by decide) (by decide) (.inl (by rw [hn, hl]; omega))
  have hi1 : i < c'.slots.length := by rw [k3]; exact hi
  have h0 : (slot c' i).pins = 0 := (k4 i hi).trans (hp i)
  obtain ⟨g2, hc, hsl⟩ := g1.pin1 hi1 k1 h0
  have hl2 : (set c' i { slot c' i with pins := 1 }).slots.length = s := by rw [set_len, k3, hl]
  refine ⟨_, pin_is g (by decide) (by decide) e h0, g2, hl2, hs, by rw [hc, pinned_congr k3 k4, hn], ⟨i, by rw [hl2, ← hl]; exact hi, ?_, ?_, ?_⟩, fun j hj hpj => ?_⟩
  · rw [hsl, if_pos rfl]; exact k1
  · rw [hsl, if_pos rfl]
    show (slot c' i).page.id = 7
    rw [k2]; rfl
  · rw [hsl, if_pos rfl]
    show (0 : Int) < 1
    decide
  · rw [hsl] at hpj ⊢
    by_cases e2 : i = j
    · rw [if_pos e2]
      exact ⟨rfl, k1, .inl (by show (slot c' i).page.id = 7; rw [k2]; rfl)⟩
    · rw [if_neg e2] at hpj
      rw [hl2, ← hl] at hj
      rw [k4 j hj, hp j] at hpj
      exact absurd hpj (by decide)
theorem PinOk.load {n k s : Nat} {c : Cache} (h : PinOk n k s c) (hk : k < s) {id : Int} (h2 : 2 ≤ id) (h7 : id ≤ 7) :
    ∃ c' i, Ch.load c id = (c', i, 0) ∧ PinOk (n + 1) k s c' ∧ i < s ∧ (slot c' i).full = true ∧ (slot c' i).page = V0 id := by
  obtain ⟨c', i, e, g1, hi, k1, k2, k3, k4, k5⟩ := h.good.load h2 h7 (.inl (by rw [h.count, h.len]; exact hk))
  refine ⟨c', i, e, ⟨g1, k3.trans h.len, h.many, by rw [pinned_congr k3 k4, h.count], ?_, fun j hj hpj => ?_⟩, by rw [← h.len]; exact hi, k1, k2⟩
  · obtain ⟨j, hj, hf, h7, hp⟩ := h.seven
    obtain ⟨x1, x2⟩ := k5 j hj hp hf
    exact ⟨j, by rw [k3]; exact hj, x1, by rw [x2]; exact h7, by rw [k4 j hj]; exact hp⟩
  · rw [k3] at hj
    rw [k4 j hj] at hpj ⊢
    obtain ⟨y1, y2, y3⟩ := h.which j hj hpj
    obtain ⟨x1, x2⟩ := k5 j hj hpj y2
    rw [x2]
    exact ⟨y1, x1, y3⟩
theorem PinOk.get {n k s : Nat} {c : Cache} (h : PinOk n k s c) (hk : k < s) {id : Int} (h2 : 2 ≤ id) (h7 : id ≤ 7) : ∃ c', Ch.get c id = (c', V0 id, 0) ∧ PinOk (n + 1) k s c' := by
  obtain ⟨c', i, e, g, hi, k1, k2⟩ := h.load hk h2 h7
  refine ⟨c', ?_, g⟩
  unfold Ch.get
  rw [if_pos (in_of_geo h.good h2 h7), e]
  simp only
  rw [if_pos trivial, k2]
/-- one pin more -/
theorem PinOk.pin {n k s : Nat} {c : Cache} (h : PinOk n k s c) (hk : k < s) (h1 : 1 ≤ k) : ∃ c', Ch.pin c ((k : Int) + 1) = (c', 0) ∧ PinOk (n + 1) (k + 1) s c' := by
  have hm := h.many
  obtain ⟨c', i, e, g, hi, k1, k2⟩ := h.load hk (id := (k : Int) + 1) (by omega) (by omega)
  have hi1 : i < c'.slots.length := by rw [g.len]; exact hi
  have hid : (slot c' i).page.id = (k : Int) + 1 := by rw [k2]; rfl
  have h0 : (slot c' i).pins = 0 := by
    have hp := g.good.pins i hi1
    rcases Int.lt_or_eq_of_le hp with hp | hp
    · obtain ⟨_, _, hw⟩ := g.which i hi1 hp
      rw [hid] at hw
      omega
    · exact hp.symm
  obtain ⟨g2, hc, hsl⟩ := g.good.pin1 hi1 k1 h0
  have hl2 : (set c' i { slot c' i with pins := 1 }).slots.length = s := by rw [set_len, g.len]
  refine ⟨_, pin_is h.good (by omega) (by omega) e h0, g2, hl2, hm, by rw [hc, g.count], ?_, fun j hj hpj => ?_⟩
  · obtain ⟨j, hj, hf, h7, hp⟩ := g.seven
    have e2 : ¬ i = j := fun e2 => by rw [← e2, h0] at hp; exact absurd hp (by decide)
    exact ⟨j, by rw [hl2, ← g.len]; exact hj, by rw [hsl, if_neg e2]; exact hf, by rw [hsl, if_neg e2]; exact h7, by rw [hsl, if_neg e2]; exact hp⟩
  · rw [hsl] at hpj ⊢
    rw [hl2, ← g.len] at hj
    by_cases e2 : i = j
    · rw [if_pos e2]
      exact ⟨rfl, k1, .inr (by show (slot c' i).page.id ≤ _; rw [hid]; omega)⟩
    · rw [if_neg e2] at hpj ⊢
      obtain ⟨y1, y2, y3⟩ := g.which j hj hpj
      exact ⟨y1, y2, y3.imp (fun x => x) fun x => by omega⟩
/-- page 7 is at hand, once -/
theorem PinOk.held7 {n k s : Nat} {c : Cache} (h : PinOk n k s c) : ((held c).filter fun x => decide (x = 7)).length = 1 := by
  obtain ⟨i, hi, hf, h7, hp⟩ := h.seven
  have e : ((held c).filter fun x => decide (x = 7)) = (c.slots.filter (has 7)).map (·.page.id) := by
    unfold held
    rw [List.filter_map, List.filter_filter]
    congr 1
    refine List.filter_congr fun x _ => ?_
    unfold has
    exact Bool.and_comm _ _
  rw [e, List.length_map]
  have h1 := cnt_filter (has 7) Slot.zero c.slots c.slots.length (Nat.le_refl _)
  rw [List.take_length] at h1
  rw [h1]
  refine cnt_one hi ?_ fun j hj hne => ?_
  · show has 7 (slot c i) = true
    unfold has
    rw [hf, h7]; rfl
  · show has 7 (slot c j) = false
    unfold has
    by_cases hfj : (slot c j).full = true
    · have : (slot c j).page.id ≠ 7 := fun x => hne (h.good.one j i hj hi hfj hf (x.trans h7.symm))
      simp [this]
    · simp [hfj]
theorem round_none {c : Cache} (h : ∀ i, i < c.slots.length → 0 < (slot c i).pins) (hl : 0 < c.slots.length) : ∀ m k, round c k m = (c, 0, 3)
  | 0, k => rfl
  | m + 1, k => by
    unfold round
    dsimp only
    rw [if_pos (h _ (Nat.mod_lt _ hl))]
    exact round_none h hl m (k + 1)
/-- with as many pins as slots there is no room -/
theorem PinOk.noRoom {n s : Nat} {c : Cache} (h : PinOk n s s c) (hs : s ≤ 5) : Ch.get c 6 = (c, Pg.zero, 3) := by
  have hall : ∀ i, i < c.slots.length → 0 < (slot c i).pins := by
    have hf := cnt_full (p := fun i => decide (0 < (slot c i).pins)) (n := c.slots.length) (by have := h.count; unfold pinned at this; rw [this, h.len])
    intro i hi
    simpa using hf i hi
  have hat : at_ c 6 = -1 := by
    rcases at_cases c 6 with ⟨ha, _⟩ | ⟨i, ha, hi, hf, hid⟩
    · exact ha
    · obtain ⟨_, _, hw⟩ := h.which i hi (hall i hi)
      rw [hid] at hw
      omega
  have hem : empty c = -1 := by
    unfold empty
    rcases firstK_range (fun s => !s.full) c c.slots.length 0 with h1 | ⟨h1, h2, h3⟩
    · exact h1
    · have hfr := h.good.free (firstK (fun s => !s.full) c 0 c.slots.length).toNat (by omega) (by simpa using h3)
      have := hall (firstK (fun s => !s.full) c 0 c.slots.length).toNat (by omega)
      omega
  have hl : Ch.load c 6 = (c, 0, 3) := by
    have hr : Ch.room c = (c, 0, 3) := by
      unfold Ch.room
      rw [hem, if_neg (by decide), round_none hall (by rw [h.len]; have := h.many; omega)]
    unfold Ch.load
    rw [hat, if_neg (by decide), hr]
    rfl
  unfold Ch.get
  rw [if_pos (in_of_geo h.good (by decide) (by decide)), hl]
  rfl

/-! ### a burst -/
theorem made_flush {d : Bk.Disk} (h : Made 6 6 d) : ∃ d', Bk.flush d = (d', 0) ∧ Made 6 6 d' ∧ d'.waiting = [] := by
  refine ⟨Bk.all (Bk.ticked d), ?_, ⟨h.ok.ticked.all.mono (Nat.zero_le _), h.on, h.geo, fun i h2 hi => ?_⟩, rfl⟩
  · unfold Bk.flush
    rw [if_neg (by rw [h.on.1]; decide), if_neg (by intro x; have := x.1; simp [h.on.2] at this)]
  · rw [Bk.read_all h.ok.ticked, Bk.read_ticked]
    exact h.stand i h2 hi
theorem corrupt_is {d : Bk.Disk} {id : Int} {bit : Nat} {mask : BitVec 32} (hg : d.blocks = 12 ∧ d.size = 256) (h2 : 2 ≤ id) (h7 : id ≤ 7) (hb : bit < 2048) : Bk.corrupt d id (bit : Int) mask = ({ d with lasting := d.lasting.set id.toNat (changed (Bk.lastB d id.toNat) bit mask 32) }, 0) := by
  unfold Bk.corrupt
  rw [if_pos (by unfold Bk.In; rw [hg.1, hg.2]; omega)]
  rfl
theorem firstK_disk (f : Slot → Bool) (c : Cache) (d : Bk.Disk) : ∀ n k, firstK f { c with disk := d } k n = firstK f c k n
  | 0, _ => rfl
  | n + 1, k => by rw [firstK, firstK, firstK_disk f c d n (k + 1)]; rfl
/-- a page at hand is told, whatever became of its block -/
theorem corrupt_hand {d : Bk.Disk} (h : Made 6 6 d) {id : Int} (h2 : 2 ≤ id) (h7 : id ≤ 7) {bit : Nat} (mask : BitVec 32) (hb : bit < 2048) :
    ∃ c1 d2 c2, get (new d 3) id = (c1, V0 id, 0) ∧ Ok 7 c1 ∧ Bk.corrupt c1.disk id (bit : Int) mask = (d2, 0) ∧ Ok 7 { c1 with disk := d2 } ∧ get { c1 with disk := d2 } id = (c2, V0 id, 0) := by
  obtain ⟨g, hl, hp⟩ := new_good h (Nat.le_refl 3) (by decide)
  obtain ⟨c1, e1, g1, k1, k2, _, hat⟩ := g.get h2 h7 (by rw [pinned_none fun i _ => hp i, hl]; decide)
  have e2 := corrupt_is (bit := bit) (mask := mask) g1.geo h2 h7 hb
  have hok := g1.ok.disk.corrupt id (bit : Int) mask
  rw [e2] at hok
  obtain ⟨d2, hd2⟩ : ∃ d2, ({ c1.disk with lasting := c1.disk.lasting.set id.toNat (changed (Bk.lastB c1.disk id.toNat) bit mask 32) } : Bk.Disk) = d2 := ⟨_, rfl⟩
  rw [hd2] at e2 hok
  have hbl : d2.blocks = 12 := by rw [← hd2]; exact g1.geo.1
  have hsz : d2.size = c1.disk.size := by rw [← hd2]
  clear hd2
  obtain ⟨C, hC⟩ : ∃ C, ({ c1 with disk := d2 } : Cache) = C := ⟨_, rfl⟩
  have hok2 : Ok 7 C := by rw [← hC]; exact ⟨g1.ok.len, g1.ok.hand, hok, fun i s hs => by show s.Ok d2.size; rw [hsz]; exact g1.ok.each i s hs⟩
  have hCl : C.slots.length = c1.slots.length := by rw [← hC]
  have hCs : ∀ i, slot C i = slot c1 i := fun i => by rw [← hC]; rfl
  have hCa : at_ C id = at_ c1 id := by rw [← hC]; exact firstK_disk _ _ _ _ _
  have hCb : C.disk.blocks = 12 := by rw [← hC]; exact hbl
  have hget : ∃ c2, get C id = (c2, V0 id, 0) := by
    rcases at_cases c1 id with ⟨ha, _⟩ | ⟨i, ha, hi, hf, hid⟩
    · omega
    · have hs := g1.slots i hi hf
      have hl : load C id = (set C i { slot C i with used := true }, i, 0) := by
        unfold load
        rw [hCa, ha, if_pos (by omega), Int.toNat_natCast]
      refine ⟨set C i { slot C i with used := true }, ?_⟩
      unfold get
      rw [if_pos (show Bk.In C.disk id by unfold Bk.In; rw [hCb]; omega), hl]
      simp only
      rw [if_pos trivial, slot_set_eq (by rw [hCl]; exact hi)]
      simp only [hCs]
      rw [hs.2.2, hid]
  obtain ⟨c2, e3⟩ := hget
  exact ⟨c1, d2, c2, e1, g1.ok, e2, by rw [hC]; exact hok2, by rw [hC]; exact e3⟩
/-- a page that is not at hand is not told -/
theorem corrupt_away {d : Bk.Disk} (h : Made 6 6 d) (hw : d.waiting = []) {id : Int} (h2 : 2 ≤ id) (h7 : id ≤ 7) {bit : Nat} {mask : BitVec 32} (hb : bit < 2048) (hm : mask.getLsbD 0 = true) :
    ∃ d2 c2, Bk.corrupt d id (bit : Int) mask = (d2, 0) ∧ Ok 6 (new d2 3) ∧ get (new d2 3) id = (c2, Pg.zero, 5) := by
  have e2 := corrupt_is (bit := bit) (mask := mask) h.geo h2 h7 hb
  have hok := h.ok.corrupt id (bit : Int) mask
  rw [e2] at hok
  have hrd : Bk.lastB d id.toNat = Pg.sealL (V0 id) 256 := by
    have := h.stand id.toNat (by omega) (by omega)
    unfold Bk.read at this
    rw [hw] at this
    rw [show ((id.toNat : Nat) : Int) = id by omega] at this
    exact this
  have hlen : id.toNat < d.lasting.length := by rw [h.ok.len, h.geo.1]; omega
  obtain ⟨d2, hd2⟩ : ∃ d2, ({ d with lasting := d.lasting.set id.toNat (changed (Bk.lastB d id.toNat) bit mask 32) } : Bk.Disk) = d2 := ⟨_, rfl⟩
  have hread : Bk.read d2 id.toNat = changed (Pg.sealL (V0 id) 256) bit mask 32 := by
    rw [← hd2]
    unfold Bk.read
    simp only [hw, List.length_nil, Bk.readK]
    unfold Bk.lastB
    simp only
    rw [List.getD_eq_getElem?_getD, List.getElem?_set, if_pos rfl, if_pos hlen]
    show changed (Bk.lastB d id.toNat) bit mask 32 = _
    rw [hrd]
  have hoff : d2.off = false := by rw [← hd2]; exact h.on.1
  have hbl : d2.blocks = 12 := by rw [← hd2]; exact h.geo.1
  have hc : Pg.checkC (V0 id) (256 : Nat) = 0 := leaf_ok _ (by omega) (by omega)
  obtain ⟨X, hX⟩ := burst_openAt8 (L := Pg.sealL (V0 id) 256) (Pg.opens_seal hc (by show 1 < _; decide)).1 bit mask (changed_ne8 _ bit mask hm (by rw [show (Pg.sealL (V0 id) 256).length = 256 from leaf_seal _]; omega)) id
  rw [hd2] at e2 hok
  refine ⟨d2, new d2 3, e2, new_ok hok (by decide) (by decide), ?_⟩
  unfold get
  rw [if_pos (show Bk.In (new d2 3).disk id by unfold Bk.In; rw [show (new d2 3).disk.blocks = 12 from hbl]; omega)]
  have hl : load (new d2 3) id = (new d2 3, 0, 5) := by
    unfold load
    rw [show at_ (new d2 3) id = -1 from rfl, if_neg (by decide), show room (new d2 3) = (new d2 3, 0, 0) from rfl]
    simp only
    rw [if_neg (by simp), show (new d2 3).disk = d2 from rfl, hoff, hread, hX]
    rfl
  rw [hl]
  rfl
end Ch
end Go.Proofs.YtflbioiildndoaaGreatDoor
