/- the plain law of caches over any disk: an empty slot has no pin, a page at hand has its block; the calls of a row -/
import Derived.Test.YtflbioiildndoaaGreatDoorCacheP
namespace Go.Proofs.YtflbioiildndoaaGreatDoor.Ch

def Tidy1 (B : Nat) (s : Slot) : Prop := (s.full = false → s.pins = 0) ∧ (s.full = true → 0 ≤ s.page.id ∧ s.page.id < (B : Int))
def Tidy (c : Cache) : Prop := ∀ (i : Nat) (s : Slot), c.slots[i]? = some s → Tidy1 c.disk.blocks s
theorem Tidy1.zero (B : Nat) : Tidy1 B Slot.zero := ⟨fun _ => rfl, fun h => by cases h⟩
theorem Tidy.slot {c : Cache} (h : Tidy c) {i : Nat} (hi : i < c.slots.length) : Tidy1 c.disk.blocks (Ch.slot c i) := h i _ (slot_at hi)
theorem Tidy.set {c : Cache} (h : Tidy c) (i : Nat) {s : Slot} (hs : Tidy1 c.disk.blocks s) : Tidy (set c i s) := by
  intro j t ht
  simp only [Ch.set] at ht ⊢
  rw [List.getElem?_set] at ht
  split at ht
  · split at ht
    · cases ht; exact hs
    · cases ht
  · exact h j t ht
theorem Tidy.of {c d : Cache} (h : Tidy c) (hs : d.slots = c.slots) (hb : d.disk.blocks = c.disk.blocks) : Tidy d := by
  intro i s hi
  rw [hs] at hi
  rw [hb]
  exact h i s hi
theorem Tidy.write {c : Cache} (h : Tidy c) {i : Nat} (hi : i < c.slots.length) : Tidy (write c i).1 := by
  unfold Ch.write
  dsimp only
  split
  · have hs := h.slot hi
    exact Tidy.of (h.set i (s := { Ch.slot c i with dirty := decide ((Bk.put c.disk (Ch.slot c i).page.id (Pg.sealL (Ch.slot c i).page c.disk.size)).2 ≠ 0) }) ⟨hs.1, hs.2⟩) rfl (put_size _ _ _).2
  · exact h
theorem Tidy.round : ∀ (m : Nat) {c : Cache} (_ : Tidy c) (_ : 0 < c.slots.length) (k : Nat), Tidy (round c k m).1
  | 0, c, h, hl, k => h
  | m + 1, c, h, hl, k => by
    have hi : (c.hand + k) % c.slots.length < c.slots.length := Nat.mod_lt _ hl
    unfold Ch.round
    dsimp only
    split
    · exact Tidy.round m h hl (k + 1)
    · split
      · have hs := h.slot hi
        exact Tidy.round m (h.set ((c.hand + k) % c.slots.length) (s := { Ch.slot c ((c.hand + k) % c.slots.length) with used := false }) ⟨hs.1, hs.2⟩) (by rw [set_len]; exact hl) (k + 1)
      · have hw := h.write hi
        split
        · exact (hw.set ((c.hand + k) % c.slots.length) (Tidy1.zero _)).of rfl rfl
        · exact hw
theorem round_empty : ∀ (m : Nat) {c : Cache} (_ : 0 < c.slots.length) (k : Nat) {D : Cache} {i : Nat}, round c k m = (D, i, 0) → (Ch.slot D i).full = false
  | 0, c, hl, k, D, i, h => by
    unfold Ch.round at h
    simp at h
  | m + 1, c, hl, k, D, i, h => by
    have hi : (c.hand + k) % c.slots.length < c.slots.length := Nat.mod_lt _ hl
    unfold Ch.round at h
    dsimp only at h
    split at h
    · exact round_empty m hl (k + 1) h
    · split at h
      · exact round_empty m (by rw [set_len]; exact hl) (k + 1) h
      · have hg := write_geo c ((c.hand + k) % c.slots.length)
        split at h
        · obtain ⟨rfl, rfl, -⟩ := (by simpa only [Prod.mk.injEq] using h : _ ∧ _ ∧ _)
          show (Ch.slot (set (write c _).1 _ Slot.zero) _).full = false
          rw [slot_set_eq (by rw [hg.1]; exact hi)]
          rfl
        · rename_i hne
          obtain ⟨-, -, h3⟩ := (by simpa only [Prod.mk.injEq] using h : _ ∧ _ ∧ _)
          exact absurd h3 hne
theorem Tidy.room {c : Cache} (h : Tidy c) (hl : 0 < c.slots.length) : Tidy (room c).1 := by
  unfold Ch.room
  split
  · exact h
  · exact Tidy.round _ h hl 0
theorem room_empty {c D : Cache} {i : Nat} (hl : 0 < c.slots.length) (h : room c = (D, i, 0)) : (Ch.slot D i).full = false := by
  unfold room at h
  split at h
  · rename_i he
    obtain ⟨rfl, rfl, -⟩ := (by simpa only [Prod.mk.injEq] using h : _ ∧ _ ∧ _)
    rcases firstK_range (fun s => !s.full) c c.slots.length 0 with h1 | ⟨_, _, h3⟩
    · unfold empty at he; omega
    · unfold empty
      simpa using h3
  · exact round_empty _ hl 0 h
theorem at_full {c : Cache} {id : Int} (h : 0 ≤ at_ c id) : (Ch.slot c (at_ c id).toNat).full = true ∧ (Ch.slot c (at_ c id).toNat).page.id = id ∧ (at_ c id).toNat < c.slots.length := by
  unfold at_ at h ⊢
  rcases firstK_range (has id) c c.slots.length 0 with h1 | ⟨h1, h2, h3⟩
  · omega
  · unfold has at h3
    simp only [Bool.and_eq_true, decide_eq_true_eq] at h3
    exact ⟨h3.1, h3.2, by omega⟩
theorem openAt_id {l : List UInt8} {id : Int} (h : (Pg.openAtL l id).2.1 = 0) : (Pg.openAtL l id).1.id = id := by
  unfold Pg.openAtL at h ⊢
  split at h
  · rename_i h1; exact absurd h h1
  · rename_i h1
    split at h
    · cases h
    · rename_i h2
      rw [if_neg h1, if_neg h2]
      exact Classical.not_not.1 h2
theorem Tidy.load {n : Nat} {c d : Cache} {id : Int} {i k : Nat} (ho : Ok n c) (h : Tidy c) (hid : Bk.In c.disk id) (hD : load c id = (d, i, k)) : Tidy d ∧ (k = 0 → (Ch.slot d i).full = true) := by
  have hlen := ho.len
  have hl : 0 < c.slots.length := by omega
  have hload := ho.load hid hD
  unfold Ch.load at hD
  split at hD
  · rename_i ha
    obtain ⟨rfl, rfl, -⟩ := (by simpa only [Prod.mk.injEq] using hD : _ ∧ _ ∧ _)
    obtain ⟨f1, f2, f3⟩ := at_full ha
    have hs := h.slot f3
    exact ⟨h.set _ ⟨hs.1, hs.2⟩, fun _ => by rw [slot_set_eq f3]; exact f1⟩
  · have h1 := h.room hl
    have hg := room_geo c
    have h2 := ho.room.2
    obtain ⟨D1, i1, k1, hr⟩ : ∃ D1 i1 k1, Ch.room c = (D1, i1, k1) := ⟨_, _, _, rfl⟩
    rw [hr] at hD h1 hg h2
    simp only at hD h1 hg h2
    split at hD
    · rename_i hne
      obtain ⟨rfl, rfl, rfl⟩ := (by simpa only [Prod.mk.injEq] using hD : _ ∧ _ ∧ _)
      exact ⟨h1, fun e => absurd e hne⟩
    · split at hD
      · obtain ⟨rfl, rfl, rfl⟩ := (by simpa only [Prod.mk.injEq] using hD : _ ∧ _ ∧ _)
        exact ⟨h1, fun e => by cases e⟩
      · split at hD
        · rename_i hne
          obtain ⟨rfl, rfl, rfl⟩ := (by simpa only [Prod.mk.injEq] using hD : _ ∧ _ ∧ _)
          exact ⟨h1, fun e => absurd e hne⟩
        · rename_i h0
          obtain ⟨rfl, rfl, rfl⟩ := (by simpa only [Prod.mk.injEq] using hD : _ ∧ _ ∧ _)
          have hz : (Pg.openAtL (Bk.read D1.disk id.toNat) id).2.1 = 0 := Classical.not_not.1 h0
          have he := openAt_id hz
          refine ⟨h1.set _ ⟨fun e => (by cases e), fun _ => ?_⟩, fun _ => by rw [slot_set_eq (by rw [hg.1]; exact h2)]⟩
          show 0 ≤ (Pg.openAtL (Bk.read D1.disk id.toNat) id).1.id ∧ _
          rw [he, hg.2.2]
          exact hid
theorem Tidy.get {n : Nat} {c d : Cache} {id : Int} {p : Pg.Page} {k : Nat} (ho : Ok n c) (h : Tidy c) (hD : Ch.get c id = (d, p, k)) : Tidy d := by
  unfold Ch.get at hD
  split at hD
  · rename_i hid
    obtain ⟨D1, i1, k1, hl⟩ : ∃ D1 i1 k1, Ch.load c id = (D1, i1, k1) := ⟨_, _, _, rfl⟩
    rw [hl] at hD
    simp only at hD
    obtain ⟨h1, h2⟩ := Tidy.load ho h hid hl
    split at hD
    · obtain ⟨rfl, -, -⟩ := (by simpa only [Prod.mk.injEq] using hD : _ ∧ _ ∧ _)
      exact h1
    · obtain ⟨rfl, -, -⟩ := (by simpa only [Prod.mk.injEq] using hD : _ ∧ _ ∧ _)
      exact h1
  · obtain ⟨rfl, -, -⟩ := (by simpa only [Prod.mk.injEq] using hD : _ ∧ _ ∧ _)
    exact h
theorem Tidy.pin {n : Nat} {c d : Cache} {id : Int} {k : Nat} (ho : Ok n c) (h : Tidy c) (hD : Ch.pin c id = (d, k)) : Tidy d := by
  unfold Ch.pin at hD
  split at hD
  · rename_i hid
    obtain ⟨D1, i1, k1, hl⟩ : ∃ D1 i1 k1, Ch.load c id = (D1, i1, k1) := ⟨_, _, _, rfl⟩
    rw [hl] at hD
    simp only at hD
    obtain ⟨h1, h2⟩ := Tidy.load ho h hid hl
    have h3 := (ho.load hid hl).2.1
    split at hD
    · rename_i hk
      obtain ⟨rfl, -⟩ := (by simpa only [Prod.mk.injEq] using hD : _ ∧ _)
      have hf := h2 hk
      have hs := h1.slot h3
      exact h1.set _ ⟨fun e => (by rw [show (_ : Slot).full = (Ch.slot D1 i1).full from rfl, hf] at e; cases e), hs.2⟩
    · obtain ⟨rfl, -⟩ := (by simpa only [Prod.mk.injEq] using hD : _ ∧ _)
      exact h1
  · obtain ⟨rfl, -⟩ := (by simpa only [Prod.mk.injEq] using hD : _ ∧ _)
    exact h
theorem Tidy.place {n : Nat} {c d : Cache} {id : Int} {i k : Nat} (ho : Ok n c) (h : Tidy c) (hD : Ch.place c id = (d, i, k)) : Tidy d ∧ (at_ c id < 0 → k = 0 → (Ch.slot d i).pins = 0) := by
  have hlen := ho.len
  have hp := (ho.place hD).2.1
  unfold Ch.place at hD
  split at hD
  · rename_i ha
    obtain ⟨rfl, rfl, -⟩ := (by simpa only [Prod.mk.injEq] using hD : _ ∧ _ ∧ _)
    exact ⟨h, fun e => absurd ha (by omega)⟩
  · have h1 := h.room (by omega)
    rw [hD] at h1
    refine ⟨h1, fun _ e => ?_⟩
    subst e
    exact (h1.slot hp).1 (room_empty (by omega) hD)
theorem Tidy.put {n : Nat} {c d : Cache} {p : Pg.Page} {k : Nat} (ho : Ok n c) (h : Tidy c) (hD : Ch.put c p = (d, k)) : Tidy d := by
  unfold Ch.put at hD
  split at hD
  · rename_i hid
    split at hD
    · obtain ⟨D1, i1, k1, hl⟩ : ∃ D1 i1 k1, Ch.place c p.id = (D1, i1, k1) := ⟨_, _, _, rfl⟩
      rw [hl] at hD
      simp only at hD
      have h1 := (Tidy.place ho h hl).1
      obtain ⟨-, -, -, hb, -⟩ := ho.place hl
      split at hD
      · obtain ⟨rfl, -⟩ := (by simpa only [Prod.mk.injEq] using hD : _ ∧ _)
        exact h1.set _ ⟨fun e => (by cases e), fun _ => by rw [hb]; exact hid⟩
      · obtain ⟨rfl, -⟩ := (by simpa only [Prod.mk.injEq] using hD : _ ∧ _)
        exact h1
    · obtain ⟨rfl, -⟩ := (by simpa only [Prod.mk.injEq] using hD : _ ∧ _)
      exact h
  · obtain ⟨rfl, -⟩ := (by simpa only [Prod.mk.injEq] using hD : _ ∧ _)
    exact h
theorem Tidy.unpin {c d : Cache} {id : Int} {k : Nat} (h : Tidy c) (hD : Ch.unpin c id = (d, k)) : Tidy d := by
  unfold Ch.unpin at hD
  split at hD
  · split at hD
    · obtain ⟨rfl, -⟩ := (by simpa only [Prod.mk.injEq] using hD : _ ∧ _)
      exact h
    · rename_i hn
      obtain ⟨rfl, -⟩ := (by simpa only [Prod.mk.injEq] using hD : _ ∧ _)
      have ha : 0 ≤ at_ c id := by omega
      obtain ⟨f1, f2, f3⟩ := at_full ha
      have hs := h.slot f3
      exact h.set _ ⟨fun e => (by rw [show (_ : Slot).full = (Ch.slot c (at_ c id).toNat).full from rfl, f1] at e; cases e), hs.2⟩
  · obtain ⟨rfl, -⟩ := (by simpa only [Prod.mk.injEq] using hD : _ ∧ _)
    exact h
theorem Tidy.flushK : ∀ (m : Nat) {c : Cache} (_ : Tidy c) (k : Nat), k + m ≤ c.slots.length → Tidy (Ch.flushK c k m).1
  | 0, c, h, k, _ => h
  | m + 1, c, h, k, hk => by
    rw [Ch.flushK]
    have hw := h.write (i := k) (by omega)
    have hg := write_geo c k
    split
    · exact Tidy.flushK m hw (k + 1) (by rw [hg.1]; omega)
    · exact hw
theorem Tidy.flush {c : Cache} (h : Tidy c) : Tidy (Ch.flush c).1 := Tidy.flushK _ h 0 (by omega)
theorem Tidy.blank (d : Bk.Disk) (n k : Nat) : Tidy ⟨List.replicate n Slot.zero, k, d⟩ := by
  intro i s hs
  simp only at hs
  rw [List.getElem?_replicate] at hs
  split at hs
  · cases hs; exact Tidy1.zero _
  · cases hs
theorem Tidy.drop {c d : Cache} {id : Int} {b : Bool} (h : Tidy c) (hD : Ch.drop c id = (d, b)) : Tidy d := by
  unfold Ch.drop at hD
  split at hD
  · obtain ⟨rfl, -⟩ := (by simpa only [Prod.mk.injEq] using hD : _ ∧ _)
    exact h.set _ (Tidy1.zero _)
  · obtain ⟨rfl, -⟩ := (by simpa only [Prod.mk.injEq] using hD : _ ∧ _)
    exact h
theorem Ok.newDisk {n : Nat} {c : Cache} (h : Ok n c) {D : Bk.Disk} (hD : Bk.Ok n D) (hs : D.size = c.disk.size) : Ok n { c with disk := D } :=
  ⟨h.len, h.hand, hD, fun i s hi => by have := h.each i s hi; rwa [← hs] at this⟩
theorem on_ok {n : Nat} {d : Bk.Disk} (h : Bk.Ok n d) : Bk.Ok n (Bk.on d) := ⟨h.b, h.s, h.len, h.each, h.wait, h.many⟩
theorem arm_ok {n : Nat} {d : Bk.Disk} (h : Bk.Ok n d) (a : Int) (l : List Bool) (x y : Int) : Bk.Ok n (Bk.arm d a l x y).1 ∧ (Bk.arm d a l x y).1.size = d.size ∧ (Bk.arm d a l x y).1.blocks = d.blocks := by
  unfold Bk.arm
  split
  · exact ⟨h, rfl, rfl⟩
  · exact ⟨⟨h.b, h.s, h.len, h.each, h.wait, h.many⟩, rfl, rfl⟩

/-! ### a call of a row -/
/-- what is put -/
def pageOf (id : Int) (f : UInt8) (bad : Bool) : Pg.Page := ⟨if bad then 0 else 3, id, 1, [f]⟩
def stepC (c : Cache) (kind id : Int) (f : UInt8) (bad : Bool) : Cache :=
  if kind = 0 then (get c id).1
  else if kind = 1 then (put c (pageOf id f bad)).1
  else if kind = 2 then (pin c id).1
  else if kind = 3 then (unpin c id).1
  else if kind = 4 then (flush c).1
  else if kind = 5 then forget c
  else if kind = 7 then { c with disk := (Bk.arm c.disk id [] (-1) 0).1 }
  else if kind = 8 then { c with disk := Bk.on c.disk }
  else (drop c id).1
/-- what holds behind each call -/
structure Fit (n s : Nat) (c : Cache) : Prop where
  ok : Ok n c
  tidy : Tidy c
  len : c.slots.length = s
  geo : c.disk.blocks = 12 ∧ c.disk.size = 256
theorem Fit.mono {n m s : Nat} {c : Cache} (h : Fit n s c) (hm : n ≤ m) : Fit m s c := ⟨h.ok.mono hm, h.tidy, h.len, h.geo⟩
theorem Fit.get {n s : Nat} {c d : Cache} {id : Int} {p : Pg.Page} {k : Nat} (h : Fit n s c) (hD : Ch.get c id = (d, p, k)) : Fit (n + 1) s d := by
  obtain ⟨h1, h2, h3, h4⟩ := h.ok.get hD
  exact ⟨h1, h.tidy.get h.ok hD, h2.trans h.len, h3.trans h.geo.1, h4.trans h.geo.2⟩
theorem Fit.put {n s : Nat} {c d : Cache} {p : Pg.Page} {k : Nat} (h : Fit n s c) (hg : p.gen < 18446744073709551616) (hb : p.body.length ≤ 100000) (hD : Ch.put c p = (d, k)) : Fit (n + 1) s d := by
  obtain ⟨h1, h2, h3, h4⟩ := h.ok.put hg hb hD
  exact ⟨h1, h.tidy.put h.ok hD, h2.trans h.len, h3.trans h.geo.1, h4.trans h.geo.2⟩
theorem Fit.pin {n s : Nat} {c d : Cache} {id : Int} {k : Nat} (h : Fit n s c) (hD : Ch.pin c id = (d, k)) : Fit (n + 1) s d := by
  obtain ⟨h1, h2, h3, h4⟩ := h.ok.pin hD
  exact ⟨h1, h.tidy.pin h.ok hD, h2.trans h.len, h3.trans h.geo.1, h4.trans h.geo.2⟩
theorem Fit.unpin {n s : Nat} {c d : Cache} {id : Int} {k : Nat} (h : Fit n s c) (hD : Ch.unpin c id = (d, k)) : Fit n s d := by
  obtain ⟨h1, h2, h3, h4⟩ := h.ok.unpin hD
  exact ⟨h1, h.tidy.unpin hD, h2.trans h.len, h3.trans h.geo.1, h4.trans h.geo.2⟩
theorem Fit.drop {n s : Nat} {c d : Cache} {id : Int} {b : Bool} (h : Fit n s c) (hD : Ch.drop c id = (d, b)) : Fit n s d := by
  obtain ⟨h1, h2, h3, h4⟩ := h.ok.drop hD
  exact ⟨h1, h.tidy.drop hD, h2.trans h.len, h3.trans h.geo.1, h4.trans h.geo.2⟩
theorem Fit.flush {n s : Nat} {c : Cache} (h : Fit n s c) : Fit (n + s) s (Ch.flush c).1 := by
  obtain ⟨h1, h2, h3, h4⟩ := h.ok.flush
  rw [h.len] at h1
  exact ⟨h1, h.tidy.flush, h2.trans h.len, h3.trans h.geo.1, h4.trans h.geo.2⟩
theorem Fit.forget {n s : Nat} {c : Cache} (h : Fit n s c) : Fit n s (Ch.forget c) :=
  ⟨h.ok.forget, Tidy.blank _ _ _, by unfold Ch.forget; simp [h.len], h.geo⟩
theorem Fit.newDisk {n s : Nat} {c : Cache} (h : Fit n s c) {D : Bk.Disk} (hD : Bk.Ok n D) (hs : D.size = c.disk.size) (hb : D.blocks = c.disk.blocks) : Fit n s { c with disk := D } :=
  ⟨h.ok.newDisk hD hs, h.tidy.of rfl hb, h.len, hb.trans h.geo.1, hs.trans h.geo.2⟩
theorem Fit.on {n s : Nat} {c : Cache} (h : Fit n s c) : Fit n s { c with disk := Bk.on c.disk } := h.newDisk (on_ok h.ok.disk) rfl rfl
theorem Fit.arm {n s : Nat} {c : Cache} (h : Fit n s c) (a : Int) (l : List Bool) (x y : Int) : Fit n s { c with disk := (Bk.arm c.disk a l x y).1 } := by
  obtain ⟨h1, h2, h3⟩ := arm_ok h.ok.disk a l x y
  exact h.newDisk h1 h2 h3
theorem Fit.step {n s : Nat} {c : Cache} (h : Fit n s c) (hs : 1 ≤ s ∧ s ≤ 6) (kind id : Int) (f : UInt8) (bad : Bool) : Fit (n + 6) s (stepC c kind id f bad) := by
  unfold stepC
  split
  · exact (h.get (p := (Ch.get c id).2.1) (k := (Ch.get c id).2.2) rfl).mono (by omega)
  · split
    · exact (h.put (p := pageOf id f bad) (k := (Ch.put c (pageOf id f bad)).2) (by show 1 < _; omega) (by show 1 ≤ _; omega) rfl).mono (by omega)
    · split
      · exact (h.pin (k := (Ch.pin c id).2) rfl).mono (by omega)
      · split
        · exact (h.unpin (k := (Ch.unpin c id).2) rfl).mono (by omega)
        · split
          · exact h.flush.mono (by omega)
          · split
            · exact h.forget.mono (by omega)
            · split
              · exact (h.arm id [] (-1) 0).mono (by omega)
              · split
                · exact h.on.mono (by omega)
                · exact (h.drop (b := (Ch.drop c id).2) rfl).mono (by omega)
/-- while the power is on and no fuse lit, a slot's page is written -/
theorem write_on {n s : Nat} {c : Cache} (h : Fit n s c) {i : Nat} (hi : i < c.slots.length) (hon : c.disk.off = false ∧ c.disk.lit = false) : (write c i).2 = 0 ∧ Fit (n + 1) s (write c i).1 ∧ (write c i).1.disk.off = false ∧ (write c i).1.disk.lit = false := by
  have hg := write_geo c i
  have hfit : Fit (n + 1) s (write c i).1 := ⟨h.ok.write hi, h.tidy.write hi, hg.1.trans h.len, hg.2.2.2.trans h.geo.1, hg.2.2.1.trans h.geo.2⟩
  have key : (write c i).2 = 0 ∧ (write c i).1.disk.off = false ∧ (write c i).1.disk.lit = false := by
    unfold write
    dsimp only
    split
    · rename_i hw
      have hin := (h.tidy.slot hi).2 hw.1
      have hc := (h.ok.slot hi).2.2 hw.1
      obtain ⟨-, -, -, k4⟩ := Pg.check_ok hc
      have hb := h.ok.disk.s
      have hp := Bk.put_on (b := Pg.sealL (Ch.slot c i).page c.disk.size) hin hon.1 hon.2 (by rw [Pg.seal_length (by omega)])
      rw [hp]
      exact ⟨rfl, hon.1, hon.2⟩
    · exact ⟨rfl, hon⟩
  exact ⟨key.1, hfit, key.2⟩
theorem flushK_on {s : Nat} : ∀ (m : Nat) {n : Nat} {c : Cache} (_ : Fit n s c) (_ : c.disk.off = false ∧ c.disk.lit = false) (k : Nat), k + m ≤ s → (flushK c k m).2 = 0 ∧ Fit (n + m) s (flushK c k m).1 ∧ (flushK c k m).1.disk.off = false
  | 0, n, c, h, hon, k, _ => ⟨rfl, h, hon.1⟩
  | m + 1, n, c, h, hon, k, hk => by
    obtain ⟨h1, h2, h3⟩ := write_on h (i := k) (by rw [h.len]; omega) hon
    rw [flushK]
    rw [if_pos h1]
    obtain ⟨g1, g2, g3⟩ := flushK_on m h2 h3 (k + 1) (by omega)
    exact ⟨g1, g2.mono (by omega), g3⟩
theorem flush_on {n s : Nat} {c : Cache} (h : Fit n s c) (hon : c.disk.off = false ∧ c.disk.lit = false) : ∃ D, flush c = (D, 0) ∧ Fit (n + s) s D ∧ D.disk.off = false := by
  obtain ⟨h1, h2, h3⟩ := flushK_on s h hon 0 (by omega)
  refine ⟨(flush c).1, ?_, ?_, ?_⟩
  · unfold flush; rw [h.len]; exact Prod.ext rfl h1
  · unfold flush; rw [h.len]; exact h2
  · unfold flush; rw [h.len]; exact h3
end Go.Proofs.YtflbioiildndoaaGreatDoor.Ch
