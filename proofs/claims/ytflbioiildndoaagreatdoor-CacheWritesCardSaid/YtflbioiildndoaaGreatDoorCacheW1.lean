/- merged: CacheMem, Cache1, Cache2, Cache3, Cache4, Cache5 -/
import Derived.Test.YtflbioiildndoaaGreatDoorCacheP
import Derived.Test.YtflbioiildndoaaGreatDoorBlockW2
import Derived.Test.YtflbioiildndoaaGreatDoorQ7
/- caches in memory: the program's; what a store, a call of its disk makes of one -/
namespace Go.Proofs.YtflbioiildndoaaGreatDoor
open Go.RowKit
set_option linter.unusedVariables false
set_option linter.unusedSimpArgs false

/-- a slot, where its page's body lies, the capacity -/
abbrev SlotX := Ch.Slot × Option Addr × Nat
def SlotX.body (x : SlotX) : Value := .slice x.2.1 x.1.page.body.length x.2.2
abbrev eCs : Elem SlotX := ⟨89, 107, 8, 64, .agg #[.int .i64 0, .int .i64 0, .int .u64 0, .slice none 0 0, .bool false, .bool false, .bool false, .int .i64 0],
  fun x => [.int .i64 x.1.page.kind, .int .i64 x.1.page.id, .int .u64 (x.1.page.gen : Int), .slice x.2.1 x.1.page.body.length x.2.2, .bool x.1.full, .bool x.1.dirty, .bool x.1.used, .int .i64 x.1.pins]⟩
theorem infoCs : (Tryz.prog.info? 107).map (fun i => (i.zero, i.size, i.bytes)) = some (some (.agg #[.int .i64 0, .int .i64 0, .int .u64 0, .slice none 0 0, .bool false, .bool false, .bool false, .int .i64 0]), 8, 64) := by kernel_rfl
theorem eCs_ok : eCs.Ok where
  len _ := rfl
  one x u hu := by simp at hu; rcases hu with rfl | rfl | rfl | rfl | rfl | rfl | rfl | rfl <;> rfl
  und := Tryz.underlying89
  info := infoCs
  zs := rfl
/-- a cache of the program at a block: its slots' row, its disk of F, its pages' bodies of M -/
structure CacheP (F M : Nat → Prop) (w : World) (c dp : Nat) (C : Ch.Cache) (rg rc : Nat) (xs : List SlotX) : Prop where
  box : BoxAt w c [.pointer (some ⟨dp, 0, none⟩), .slice (some ⟨rg, 0, none⟩) C.slots.length rc, .int .i64 (C.hand : Int)]
  row : OwnR eCs w 0 (.slice (some ⟨rg, 0, none⟩) C.slots.length rc) xs
  slots : xs.map (·.1) = C.slots
  body : ∀ (i : Nat) (x : SlotX), xs[i]? = some x → BytesAt w x.body x.1.page.body ∧ (x.1.page.body = [] ∨ InG M x.body)
  disk : DiskAt F w dp C.disk
  ne : c ≠ rg
  noF : ¬ F c ∧ ¬ F rg
  noM : ¬ M c ∧ ¬ M rg
  apart : ∀ k, M k → ¬ F k
  heldF : Held F w
  heldM : Held M w
/-- a cache, all of its memory in U -/
def CacheAt (U : Nat → Prop) (w : World) (c : Nat) (C : Ch.Cache) : Prop :=
  ∃ F M dp rg rc xs, CacheP F M w c dp C rg rc xs ∧ (∀ k, F k → U k) ∧ (∀ k, M k → U k) ∧ U c ∧ U rg ∧ Held U w
theorem BytesAt.onE {w w' : World} {v : Value} {l : List UInt8} {M : Nat → Prop} (h : BytesAt w v l) (hm : l = [] ∨ InG M v) (hb : ∀ k, M k → w'.heap[k]? = w.heap[k]?) : BytesAt w' v l := by
  rcases hm with rfl | hm
  · obtain ⟨a, c, rfl, h1, h2, _⟩ := h
    exact ⟨a, c, rfl, h1, h2, .inl rfl⟩
  · exact h.on fun k hk => hb k (hm k hk)
section
variable {F M : Nat → Prop} {w w' : World} {c dp : Nat} {C : Ch.Cache} {rg rc : Nat} {xs : List SlotX}
theorem CacheP.len (h : CacheP F M w c dp C rg rc xs) : xs.length = C.slots.length := by rw [← h.slots]; simp
theorem CacheP.at (h : CacheP F M w c dp C rg rc xs) {i : Nat} (hi : i < C.slots.length) : ∃ x, xs[i]? = some x ∧ x.1 = Ch.slot C i := by
  obtain ⟨x, hx⟩ := getElem?_some_of_lt (l := xs) (k := i) (by rw [h.len]; exact hi)
  refine ⟨x, hx, ?_⟩
  have h1 : C.slots[i]? = some x.1 := by rw [← h.slots, List.getElem?_map, hx]; rfl
  have h2 := Ch.slot_at hi
  rw [h1] at h2
  exact Option.some.inj h2
theorem CacheP.lt (h : CacheP F M w c dp C rg rc xs) : c < w.heap.size ∧ rg < w.heap.size := ⟨h.box.lt, (h.row.lt rg rfl).2⟩
theorem CacheP.on (h : CacheP F M w c dp C rg rc xs) (hc : w'.heap[c]? = w.heap[c]?) (hr : w'.heap[rg]? = w.heap[rg]?) (hF : ∀ k, F k → w'.heap[k]? = w.heap[k]?) (hM : ∀ k, M k → w'.heap[k]? = w.heap[k]?) (hs : w.heap.size ≤ w'.heap.size) : CacheP F M w' c dp C rg rc xs where
  box := h.box.on hc
  row := h.row.on fun k hk => by obtain rfl : rg = k := Option.some.inj hk; exact hr
  slots := h.slots
  body i x hx := ⟨(h.body i x hx).1.onE (h.body i x hx).2 hM, (h.body i x hx).2⟩
  disk := h.disk.on hF
  ne := h.ne
  noF := h.noF
  noM := h.noM
  apart := h.apart
  heldF := h.heldF.more hs
  heldM := h.heldM.more hs
theorem CacheP.below (h : CacheP F M w c dp C rg rc xs) (hb : Below w.heap.size w w') : CacheP F M w' c dp C rg rc xs :=
  h.on (hb.block c h.lt.1) (hb.block rg h.lt.2) (fun k hk => hb.block k (h.heldF k hk)) (fun k hk => hb.block k (h.heldM k hk)) hb.size
/-- its disk did something -/
theorem CacheP.disks {F' : Nat → Prop} {D : Bk.Disk} (h : CacheP F M w c dp C rg rc xs) (hd : DiskAt F' w' dp D) (hb : Beside F w w') (hg : Grows F w F' w') : CacheP F' M w' c dp { C with disk := D } rg rc xs where
  box := h.box.beside hb h.noF.1
  row := h.row.on fun k hk => by obtain rfl : rg = k := Option.some.inj hk; exact hb.block rg h.lt.2 h.noF.2
  slots := h.slots
  body i x hx := ⟨(h.body i x hx).1.onE (h.body i x hx).2 fun k hk => hb.block k (h.heldM k hk) (h.apart k hk), (h.body i x hx).2⟩
  disk := hd
  ne := h.ne
  noF := ⟨fun hf => by rcases (hg _ hf).1 with h1 | h1; exact h.noF.1 h1; (have := h.lt.1; omega), fun hf => by rcases (hg _ hf).1 with h1 | h1; exact h.noF.2 h1; (have := h.lt.2; omega)⟩
  noM := h.noM
  apart k hk hf := by
    rcases (hg k hf).1 with h1 | h1
    · exact h.apart k hk h1
    · have := h.heldM k hk; omega
  heldF := hg.held
  heldM := h.heldM.more hb.size
/-- another slot at a place; its page's body may lie in new memory -/
theorem CacheP.setSlot {M' : Nat → Prop} (h : CacheP F M w c dp C rg rc xs) {i : Nat} {x : SlotX} (hi : i < C.slots.length) (hg : w.grownBy w' (some rg)) (hrow : OwnR eCs w' 0 (.slice (some ⟨rg, 0, none⟩) C.slots.length rc) (xs.set i x))
    (hM : ∀ k, M k → M' k) (hnew : ∀ k, M' k → (M k ∨ (k ≠ c ∧ k ≠ rg ∧ ¬ F k)) ∧ k < w'.heap.size) (hb : BytesAt w' x.body x.1.page.body) (hx : x.1.page.body = [] ∨ InG M' x.body) : CacheP F M' w' c dp (Ch.set C i x.1) rg rc (xs.set i x) where
  box := by
    rw [show (Ch.set C i x.1).slots.length = C.slots.length from Ch.set_len _ _ _]
    exact h.box.grownR hg (by simpa using fun e => h.ne e.symm)
  row := by rw [show (Ch.set C i x.1).slots.length = C.slots.length from Ch.set_len _ _ _]; exact hrow
  slots := by rw [List.map_set, h.slots]; rfl
  body j y hy := by
    rw [List.getElem?_set] at hy
    split at hy
    · split at hy
      · cases hy; exact ⟨hb, hx⟩
      · cases hy
    · obtain ⟨h1, h2⟩ := h.body j y hy
      exact ⟨h1.onE h2 fun k hk => hg.block k (h.heldM k hk) (by intro e; cases e; exact h.noM.2 hk), h2.imp id fun h3 => h3.mono hM⟩
  disk := h.disk.on fun k hk => hg.block k (h.heldF k hk) (by intro e; cases e; exact h.noF.2 hk)
  ne := h.ne
  noF := h.noF
  noM := ⟨fun hm => by rcases (hnew _ hm).1 with h1 | h1; exact h.noM.1 h1; exact h1.1 rfl, fun hm => by rcases (hnew _ hm).1 with h1 | h1; exact h.noM.2 h1; exact h1.2.1 rfl⟩
  apart k hk := by
    rcases (hnew k hk).1 with h1 | h1
    · exact h.apart k h1
    · exact h1.2.2
  heldF := h.heldF.more hg.size
  heldM k hk := (hnew k hk).2
/-- the hand is elsewhere -/
theorem CacheP.setHand (h : CacheP F M w c dp C rg rc xs) {n : Nat} (hg : w.grownBy w' (some c)) (hx : BoxAt w' c [.pointer (some ⟨dp, 0, none⟩), .slice (some ⟨rg, 0, none⟩) C.slots.length rc, .int .i64 (n : Int)]) : CacheP F M w' c dp { C with hand := n } rg rc xs where
  box := hx
  row := h.row.on fun k hk => by obtain rfl : rg = k := Option.some.inj hk; exact hg.block rg h.lt.2 (by simpa using fun e => h.ne e.symm)
  slots := h.slots
  body i x hx := ⟨(h.body i x hx).1.onE (h.body i x hx).2 fun k hk => hg.block k (h.heldM k hk) (by intro e; cases e; exact h.noM.1 hk), (h.body i x hx).2⟩
  disk := h.disk.on fun k hk => hg.block k (h.heldF k hk) (by intro e; cases e; exact h.noF.1 hk)
  ne := h.ne
  noF := h.noF
  noM := h.noM
  apart := h.apart
  heldF := h.heldF.more hg.size
  heldM := h.heldM.more hg.size
/-- the cells of a slot -/
theorem CacheP.cells (h : CacheP F M w c dp C rg rc xs) {i : Nat} {x : SlotX} (hx : xs[i]? = some x) : w.cell? ⟨rg, i * 8, none⟩ = some (.int .i64 x.1.page.kind) ∧ w.cell? ⟨rg, i * 8 + 1, none⟩ = some (.int .i64 x.1.page.id) ∧ w.cell? ⟨rg, i * 8 + 2, none⟩ = some (.int .u64 (x.1.page.gen : Int)) ∧ w.cell? ⟨rg, i * 8 + 3, none⟩ = some (.slice x.2.1 x.1.page.body.length x.2.2) ∧
    w.cell? ⟨rg, i * 8 + 4, none⟩ = some (.bool x.1.full) ∧ w.cell? ⟨rg, i * 8 + 5, none⟩ = some (.bool x.1.dirty) ∧ w.cell? ⟨rg, i * 8 + 6, none⟩ = some (.bool x.1.used) ∧ w.cell? ⟨rg, i * 8 + 7, none⟩ = some (.int .i64 x.1.pins) := by
  have hc := fun (j : Nat) (u : Value) (hu : (eCs.enc x)[j]? = some u) => OwnR.cell eCs_ok h.row hx hu
  exact ⟨hc 0 _ rfl, hc 1 _ rfl, hc 2 _ rfl, hc 3 _ rfl, hc 4 _ rfl, hc 5 _ rfl, hc 6 _ rfl, hc 7 _ rfl⟩
end
/-- what a call of a cache does that hands back an error, or none -/
def CDoes (U : Nat → Prop) (w : World) (A : Nat → Addr) (c : Nat) (C : Ch.Cache) (k : Nat) (e : Ending) (w' : World) : Prop :=
  ∃ U' l v, e = .returned v ∧ ErrIs w' A w.heap.size l k v ∧ CacheAt U' w' c C ∧ Beside U w w' ∧ Grows U w U' w'
end Go.Proofs.YtflbioiildndoaaGreatDoor

/- cache: at, cloned, Dirty -/
namespace Go.Proofs.YtflbioiildndoaaGreatDoor
open Go.RowKit
set_option linter.unusedVariables false
set_option linter.unusedSimpArgs false

theorem Ch.firstK_step (f : Ch.Slot → Bool) (C : Ch.Cache) (k : Nat) (h : k < C.slots.length) : Ch.firstK f C k (C.slots.length - k) = if f (Ch.slot C k) = true then (k : Int) else Ch.firstK f C (k + 1) (C.slots.length - (k + 1)) := by
  obtain ⟨m, hm⟩ : ∃ m, C.slots.length - k = m + 1 := ⟨C.slots.length - k - 1, by omega⟩
  rw [hm, Ch.firstK, show C.slots.length - (k + 1) = m by omega]
theorem Ch.firstK_end (f : Ch.Slot → Bool) (C : Ch.Cache) : Ch.firstK f C C.slots.length (C.slots.length - C.slots.length) = -1 := by rw [Nat.sub_self]; rfl

set_option maxRecDepth 100000 in
set_option maxHeartbeats 2000000 in
theorem at_is {F M : Nat → Prop} {w : World} {c dp : Nat} {C : Ch.Cache} {rg rc : Nat} {xs : List SlotX} (h : CacheP F M w c dp C rg rc xs) (hl : C.slots.length ≤ 64) (id : Int) (r : Int) (hr : Ch.at_ C id = r) :
    Calls Tryz.prog 64 #[.pointer (some ⟨c, 0, none⟩), .int .i64 id] w fun e w' => e = .returned (.int .i64 r) ∧ Below w.heap.size w w' := by
  obtain ⟨m0, m1, m2⟩ := h.box.three
  have H := Lib.hid h
  have HR := Lib.hid hr
  clear h hr
  go_enter Tryz.func64, Tryz.ntmps64
  go_wp2_with fail
  go_loopw [12] (fun i wr => ∃ k : Nat, k ≤ C.slots.length ∧ i = .int .i64 k ∧ Ch.firstK (Ch.has id) C k (C.slots.length - k) = r ∧ Below w.heap.size w wr) (fun i _ => C.slots.length - (intOf i).toNat)
  case atStart => exact ⟨0, by omega, rfl, HR.out, Below.refl _ _⟩
  case round =>
    obtain ⟨k, hk, rfl, hf, hbr⟩ := hrel
    have HF := Lib.hid hf
    have HBR := Lib.hid hbr
    clear hf hbr m0 m1 m2
    by_cases hlt : k < C.slots.length
    · obtain ⟨x, hx, hxs⟩ := H.out.at hlt
      obtain ⟨e0, e1, e2, e3, e4, e5, e6, e7⟩ := (H.out.below HBR.out).cells hx
      have HST := Lib.hid (Ch.firstK_step (Ch.has id) C k hlt)
      rw [← hxs] at HST
      have hlt1 : (k : Int) < (C.slots.length : Int) := by omega
      obtain ⟨⟨page, full, dirty, used, pins⟩, ba, bc⟩ := x
      simp only at e0 e1 e2 e3 e4 e5 e6 e7
      clear hx hxs
      cases full with
      | false =>
        go_wp2_with fail
        go_roundw
        case rel => exact ⟨k + 1, by omega, by go_num, by rw [← HF.out, HST.out]; simp [Ch.has], HBR.out.alloc HBR.out.size _⟩
        case measure => simp [intOf]; omega
      | true =>
        by_cases hid : page.id = id
        · go_wp2_with fail
          go_ret
          exact ⟨by rw [← HF.out, HST.out]; simp [Ch.has, hid], HBR.out.alloc HBR.out.size _⟩
        · go_wp2_with fail
          go_roundw
          case rel => exact ⟨k + 1, by omega, by go_num, by rw [← HF.out, HST.out]; simp [Ch.has, hid], HBR.out.alloc HBR.out.size _⟩
          case measure => simp [intOf]; omega
    · obtain rfl : k = C.slots.length := by omega
      have HE := Lib.hid (Ch.firstK_end (Ch.has id) C)
      go_wp2_with fail
      go_ret
      exact ⟨by rw [← HF.out, HE.out]; rfl, HBR.out⟩

set_option maxRecDepth 100000 in
set_option maxHeartbeats 2000000 in
theorem clonedP_is (p : Pg.Page) (a : Option Addr) (c : Nat) (w : World) (hb : BytesAt w (.slice a p.body.length c) p.body) (hl : p.body.length ≤ 100000) :
    Calls Tryz.prog 56 #[.agg #[.int .i64 p.kind, .int .i64 p.id, .int .u64 (p.gen : Int), .slice a p.body.length c]] w fun e w' => (∃ g, e = .returned (.agg #[.int .i64 p.kind, .int .i64 p.id, .int .u64 (p.gen : Int), .slice (some ⟨g, 0, none⟩) p.body.length p.body.length]) ∧ Own w' w.heap.size (.slice (some ⟨g, 0, none⟩) p.body.length p.body.length) p.body) ∧ Below w.heap.size w w' := by
  have HB := Lib.hid hb
  clear hb
  go_enter Tryz.func56, Tryz.ntmps56
  go_upto_region 1 with fail
  refine wp_name fun W hW => ?_
  have HX := Lib.hid (show BoxAt W w.heap.size [.int .i64 p.kind, .int .i64 p.id, .int .u64 (p.gen : Int), .slice a p.body.length c] by rw [hW]; exact (BoxAt.new w [_, _, _, _] _).alloc _)
  have HY := Lib.hid (show BoxAt W (w.heap.size + 1) [.int .i64 0, .int .i64 0, .int .u64 0, .slice none 0 0] by rw [hW]; exact BoxAt.newAt _ _ (by simp) [_, _, _, _] _)
  have HBW := Lib.hid (show Below w.heap.size w W by rw [hW]; go_grown)
  have hWs : w.heap.size + 1 < W.heap.size := HY.out.lt
  clear hW
  obtain ⟨m0, m1, m2, m3⟩ := HX.out.four
  go_upto_region 2 with (at_make; (refine wpList_make_bytes rfl _ _ rfl p.body.length _ _ rfl rfl (by omega) (by omega) (by omega) ?_))
  intro w1 hown hgrow
  have hb1 := (Below.refl W.heap.size W).grown hgrow (Nat.le_refl _) (by intro k hk; cases hk)
  have HO := Lib.hid hown
  have HB1 := Lib.hid hb1
  have HX1 := Lib.hid (HX.out.below hb1)
  have HY1 := Lib.hid (HY.out.below hb1)
  clear hown hgrow hb1 m0 m1 m2 m3
  obtain ⟨m0, m1, m2, m3⟩ := HX1.out.four
  go_upto_region 3 with ((with_reducible show wpList _ _ _ _ _ _); (refine wpList_copy_bytes rfl (.tmp 8) (.tmp 10) rfl W.heap.size W.heap.size p.body.length p.body.length (List.replicate p.body.length 0) rfl HO.out (by simp) _ p.body rfl ((HB.out.below HBW.out).below HB1.out) (by simp) ?_))
  intro w2 ho2 hg2
  have HO2 : Hid (Own w2 W.heap.size (.slice (some ⟨W.heap.size, 0, none⟩) p.body.length p.body.length) p.body) := Lib.hid (by simpa using ho2)
  have HB2 := Lib.hid (HB1.out.trans (below_of_grown hg2 (Nat.le_refl _) HB1.out.size))
  have HX2 := Lib.hid (HX.out.below HB2.out)
  have HY2 := Lib.hid (HY.out.below HB2.out)
  have hs2 : W.heap.size < w2.heap.size := (HO2.out.lt _ rfl).2
  clear ho2 hg2 m0 m1 m2 m3
  obtain ⟨m0, m1, m2, m3⟩ := HX2.out.four
  obtain ⟨f0, f1, f2, f3⟩ := HX2.out.four_free
  obtain ⟨n0, n1, n2, n3⟩ := HY2.out.four
  obtain ⟨i0, i1, i2, i3⟩ := HY2.out.four_free
  go_wp2_with fail
  refine bodyPost_ret (v := .agg #[.int .i64 p.kind, .int .i64 p.id, .int .u64 (p.gen : Int), .slice (some ⟨W.heap.size, 0, none⟩) p.body.length p.body.length]) (by simp [results, Tryz.results56, go_sem, n0, n1, n2, n3]) rfl ?_
  have hBF := below_step HBW.out HB2.out
  have hs0 := HBW.out.size
  exact ⟨⟨_, rfl, (((((HO2.out.setLow _ (by omega)).setLow _ (by omega)).setLow _ (by omega)).setLow _ (by omega)).setLow _ (by omega)).mono hs0⟩, by go_grown⟩
end Go.Proofs.YtflbioiildndoaaGreatDoor

/- cache: a cache whose memory lies in U; write -/
namespace Go.Proofs.YtflbioiildndoaaGreatDoor
open Go.RowKit
set_option linter.unusedVariables false
set_option linter.unusedSimpArgs false

/-- a cache whose memory lies in U; its own block, its disk's, its slots' -/
def CIn (U : Nat → Prop) (w : World) (c dp rg rc : Nat) (C : Ch.Cache) : Prop := ∃ F M xs, CacheP F M w c dp C rg rc xs ∧ (∀ k, F k → U k) ∧ (∀ k, M k → U k) ∧ U c ∧ U rg ∧ Held U w
/-- what a call makes of it that hands back an error, or none -/
def CAct (U : Nat → Prop) (w : World) (A : Nat → Addr) (c dp rg rc : Nat) (C : Ch.Cache) (k : Nat) (e : Ending) (w' : World) : Prop :=
  ∃ l v, e = .returned v ∧ ErrIs w' A w.heap.size l k v ∧ CIn (More U w w') w' c dp rg rc C ∧ Beside U w w'
theorem CIn.mono {U V : Nat → Prop} {w : World} {c dp rg rc : Nat} {C : Ch.Cache} (h : CIn U w c dp rg rc C) (hv : ∀ k, U k → V k) (hV : Held V w) : CIn V w c dp rg rc C := by
  obtain ⟨F, M, xs, h1, h2, h3, h4, h5, h6⟩ := h
  exact ⟨F, M, xs, h1, fun k hk => hv k (h2 k hk), fun k hk => hv k (h3 k hk), hv _ h4, hv _ h5, hV⟩
theorem CIn.held {U : Nat → Prop} {w : World} {c dp rg rc : Nat} {C : Ch.Cache} (h : CIn U w c dp rg rc C) : Held U w := by
  obtain ⟨F, M, xs, h1, h2, h3, h4, h5, h6⟩ := h; exact h6
theorem CIn.below {U : Nat → Prop} {w w' : World} {c dp rg rc : Nat} {C : Ch.Cache} (h : CIn U w c dp rg rc C) (hb : Below w.heap.size w w') : CIn U w' c dp rg rc C := by
  obtain ⟨F, M, xs, h1, h2, h3, h4, h5, h6⟩ := h; exact ⟨F, M, xs, h1.below hb, h2, h3, h4, h5, h6.more hb.size⟩
theorem CIn.moreOf {U : Nat → Prop} {w w' : World} {c dp rg rc : Nat} {C : Ch.Cache} (h : CIn U w' c dp rg rc C) (hU : Held U w) (hs : w.heap.size ≤ w'.heap.size) : CIn (More U w w') w' c dp rg rc C := h.mono (fun k hk => .inl hk) (More.held hU hs)
theorem More.trans {U : Nat → Prop} {w w1 w2 : World} (h1 : w.heap.size ≤ w1.heap.size) (h2 : w1.heap.size ≤ w2.heap.size) (k : Nat) (h : More (More U w w1) w1 w2 k) : More U w w2 k := by
  rcases h with (h | h) | h
  · exact .inl h
  · exact .inr (by omega)
  · exact .inr (by omega)

/-- the cells of a slot -/
theorem CIn.cells {U : Nat → Prop} {w : World} {c dp rg rc : Nat} {C : Ch.Cache} (h : CIn U w c dp rg rc C) {i : Nat} (hi : i < C.slots.length) : ∃ ba bc, w.cell? ⟨rg, i * 8, none⟩ = some (.int .i64 (Ch.slot C i).page.kind) ∧ w.cell? ⟨rg, i * 8 + 1, none⟩ = some (.int .i64 (Ch.slot C i).page.id) ∧ w.cell? ⟨rg, i * 8 + 2, none⟩ = some (.int .u64 ((Ch.slot C i).page.gen : Int)) ∧ w.cell? ⟨rg, i * 8 + 3, none⟩ = some (.slice ba (Ch.slot C i).page.body.length bc) ∧
    w.cell? ⟨rg, i * 8 + 4, none⟩ = some (.bool (Ch.slot C i).full) ∧ w.cell? ⟨rg, i * 8 + 5, none⟩ = some (.bool (Ch.slot C i).dirty) ∧ w.cell? ⟨rg, i * 8 + 6, none⟩ = some (.bool (Ch.slot C i).used) ∧ w.cell? ⟨rg, i * 8 + 7, none⟩ = some (.int .i64 (Ch.slot C i).pins) ∧
    BytesAt w (.slice ba (Ch.slot C i).page.body.length bc) (Ch.slot C i).page.body ∧ ∀ j, w.frozen? ⟨rg, j, none⟩ = false := by
  obtain ⟨F, M, xs, h1, h2, h3, h4, h5, h6⟩ := h
  obtain ⟨x, hx, hxs⟩ := h1.at hi
  obtain ⟨e0, e1, e2, e3, e4, e5, e6, e7⟩ := h1.cells hx
  have hb := (h1.body i x hx).1
  rw [← hxs]
  exact ⟨x.2.1, x.2.2, e0, e1, e2, e3, e4, e5, e6, e7, hb, fun j => OwnR.free h1.row j⟩
theorem CIn.box {U : Nat → Prop} {w : World} {c dp rg rc : Nat} {C : Ch.Cache} (h : CIn U w c dp rg rc C) : BoxAt w c [.pointer (some ⟨dp, 0, none⟩), .slice (some ⟨rg, 0, none⟩) C.slots.length rc, .int .i64 (C.hand : Int)] := by
  obtain ⟨F, M, xs, h1, _⟩ := h; exact h1.box
/-- a store into a slot, but for its body -/
theorem CIn.cell {U : Nat → Prop} {w : World} {c dp rg rc : Nat} {C : Ch.Cache} (h : CIn U w c dp rg rc C) {i : Nat} (hi : i < C.slots.length) (j : Nat) (u : Value) (s : Ch.Slot) (hj : j < 8) (hs : s.page = (Ch.slot C i).page)
    (he : ∀ ba bc, eCs.enc (s, ba, bc) = (eCs.enc (Ch.slot C i, ba, bc)).set j u) : CIn U (w.setCell ⟨rg, i * 8 + j, none⟩ u) c dp rg rc (Ch.set C i s) := by
  obtain ⟨F, M, xs, h1, h2, h3, h4, h5, h6⟩ := h
  obtain ⟨x, hx, hxs⟩ := h1.at hi
  have hbd := h1.body i x hx
  obtain ⟨x1, ba, bc⟩ := x
  simp only at hxs hbd
  subst hxs
  have hg := grownBy_set (World.grownBy.refl w (some rg)) (i * 8 + j) u
  have hrow := OwnR.set eCs_ok h1.row hx (j := j) (y := (s, ba, bc)) (u := u) hj (he ba bc)
  have hv : SlotX.body (s, ba, bc) = SlotX.body (Ch.slot C i, ba, bc) := by unfold SlotX.body; simp only [hs]
  have hb1 : BytesAt (w.setCell ⟨rg, i * 8 + j, none⟩ u) (SlotX.body (s, ba, bc)) s.page.body := by
    rw [hv, hs]
    exact hbd.1.onE hbd.2 fun k hk => hg.block k (h1.heldM k hk) (by intro e; cases e; exact h1.noM.2 hk)
  refine ⟨F, M, xs.set i (s, ba, bc), h1.setSlot hi hg hrow (fun k hk => hk) (fun k hk => ⟨.inl hk, Nat.lt_of_lt_of_le (h1.heldM k hk) hg.size⟩) hb1 (by rw [hv, hs]; exact hbd.2), h2, h3, h4, h5, h6.more hg.size⟩

set_option maxRecDepth 100000 in
set_option maxHeartbeats 2000000 in
theorem cwrite_is {S : Nat → Prop} [Has S 1] [Has S 2] [Has S 5] [Has S 7] {U : Nat → Prop} {w : World} {c dp rg rc n : Nat} {C D : Ch.Cache} {k : Nat} (h : CIn U w c dp rg rc C) (ho : Ch.Ok n C) (hn : n ≤ 1000000) (i : Nat) (hi : i < C.slots.length) (hD : Ch.write C i = (D, k)) (A : Nat → Addr) (hsU : ∀ w1, Beside U w w1 → SentsOn S w1 A) :
    Calls Tryz.prog 42 #[.pointer (some ⟨c, 0, none⟩), .int .i64 (i : Int)] w (CAct U w A c dp rg rc D k) := by
  have HC := Lib.hid h
  obtain ⟨F, M, xs, hp, hF, hM, hUc, hUr, hU⟩ := h
  obtain ⟨x, hx, hxs⟩ := hp.at hi
  obtain ⟨m0, m1, m2⟩ := hp.box.three
  obtain ⟨e0, e1, e2, e3, e4, e5, e6, e7⟩ := hp.cells hx
  have hi1 : (i : Int) < (C.slots.length : Int) := by omega
  have hlen := ho.len
  have hok := ho.slot hi
  have hbd := hp.body i x hx
  unfold Ch.write at hD
  dsimp only at hD
  rw [← hxs] at hD hok
  obtain ⟨⟨page, full, dirty, used, pins⟩, ba, bc⟩ := x
  simp only at e0 e1 e2 e3 e4 e5 e6 e7 hD hok hbd
  have hsame : ∀ w', Below w.heap.size w w' → CIn (More U w w') w' c dp rg rc C := fun w' hb => (HC.out.below hb).moreOf hU hb.size
  have HP := Lib.hid hp
  have HX := Lib.hid hx
  have HS := Lib.hid hsU
  have HSM := Lib.hid hsame
  have HO := Lib.hid ho
  have HOK := Lib.hid hok
  have HBD := Lib.hid hbd
  have HDD := Lib.hid hD
  have HU := Lib.hid hU
  have HFU := Lib.hid hF
  have HMU := Lib.hid hM
  clear hp hx hsU hsame ho hok hbd hD hxs hF hM hU
  go_enter Tryz.func42, Tryz.ntmps42
  cases full with
  | false =>
    have hD := HDD.out
    rw [if_neg (by simp)] at hD
    obtain ⟨rfl, rfl⟩ := Prod.mk.inj hD
    go_wp2_with fail
    go_ret
    exact ⟨[], _, rfl, ErrIs.nil _ _ _, HSM.out _ (Below.refl _ _), Beside.refl _ _⟩
  | true =>
  cases dirty with
  | false =>
    have hD := HDD.out
    rw [if_neg (by simp)] at hD
    obtain ⟨rfl, rfl⟩ := Prod.mk.inj hD
    go_wp2_with fail
    go_ret
    exact ⟨[], _, rfl, ErrIs.nil _ _ _, HSM.out _ (Below.refl _ _), Beside.refl _ _⟩
  | true =>
  obtain ⟨E, kk, hE⟩ : ∃ E kk, Bk.put C.disk page.id (Pg.sealL page C.disk.size) = (E, kk) := ⟨_, _, rfl⟩
  have hD := HDD.out
  rw [if_pos (by simp), hE] at hD
  obtain ⟨hD1, hD2⟩ := Prod.mk.inj hD
  simp only at hD1 hD2
  subst hD2
  have HD1 := Lib.hid hD1
  have HE := Lib.hid hE
  clear hD hD1 hE HDD
  go_upto_region 4 with fail
  have p0 := Near.cell (w := w.drew) (row := none) (show w.drew.cell? ⟨c, 0, none⟩ = _ from m0) (by simp)
  have q0 := Near.cell (w := w.drew) (row := none) (show w.drew.cell? ⟨rg, i * 8, none⟩ = _ from e0) (by simp)
  have q1 := Near.cell (w := w.drew) (row := none) (show w.drew.cell? ⟨rg, i * 8 + 1, none⟩ = _ from e1) (by simp)
  have q2 := Near.cell (w := w.drew) (row := none) (show w.drew.cell? ⟨rg, i * 8 + 2, none⟩ = _ from e2) (by simp)
  have q3 := Near.cell (w := w.drew) (row := none) (show w.drew.cell? ⟨rg, i * 8 + 3, none⟩ = _ from e3) (by simp)
  refine wp_region_mix (fun w' => ∃ x : Near w.drew none, w' = x.world) [] 16 (by kernel_rfl) rfl ?_
  refine mix_reads_lit [0, 1, 2, 3, 4, 5, 6, 7] 8 (by kernel_rfl) (by kernel_rfl) (by kernel_rfl) (by kernel_rfl) rfl (NearC.of (World.grownBy.refl _ _)) ?_
  simp only [pick, List.filterMap_cons, List.filterMap_nil, List.getElem?_cons_succ, List.getElem?_cons_zero]
  repeat (first | go_big_quiet_step (fail) | quiet_step (fail))
  refine wpQuiet_nil ?_
  clear p0 q0 q1 q2 q3
  have hdd := HP.out.disk.drew
  refine mix_deed_lit 8 7 (by kernel_rfl) (by kernel_rfl) rfl (fun K hK => ?_)
  simp only [comesUp, List.getElem?_cons_succ, List.getElem?_cons_zero]
  refine if_mk rfl ?_
  go_simp
  refine (geo_is hdd).mono ?_
  rintro e w3 ⟨rfl, hb3⟩
  have b3 : Below w.heap.size w w3 := below_step (Below.refl _ _).drew hb3
  refine hK _ _ (fun _ _ => NearC.of (grown_of_below hb3 (Nat.le_refl _) _)) ?_
  clear hK K
  refine mix_deed_lit 9 6 (by kernel_rfl) (by kernel_rfl) rfl (fun K hK => ?_)
  simp only [comesUp, List.getElem?_cons_succ, List.getElem?_cons_zero]
  refine if_mk rfl ?_
  go_simp
  refine hK _ _ (fun _ hc => hc) ?_
  clear hK K
  refine mix_deed_lit 10 5 (by kernel_rfl) (by kernel_rfl) rfl (fun K hK => ?_)
  simp only [comesUp, List.getElem?_cons_succ, List.getElem?_cons_zero]
  refine if_mk rfl ?_
  go_simp
  refine (seal_ok page ba bc C.disk.size _ A (HS.out _ (Beside.of_below b3)) (HBD.out.1.below b3) (HOK.out.2.2 rfl) HOK.out.1).mono ?_
  rintro e w4 ⟨hg4, hb4⟩
  obtain ⟨a4, c4, rfl, ho4⟩ := hg4.seen
  have b4 : Below w.heap.size w w4 := below_step b3 hb4
  have b4' : Below w.heap.size w.drew w4 := ⟨b4.os, b4.tape, b4.output, b4.size, b4.block⟩
  refine hK _ _ (fun _ _ => NearC.of (grown_of_below b4' (Nat.le_refl _) _)) ?_
  clear hK K
  refine mix_reads_lit [11, 12, 13, 14, 15] 0 (by kernel_rfl) (by kernel_rfl) (by kernel_rfl) (by kernel_rfl) rfl (NearC.of (grown_of_below b4' (Nat.le_refl _) _)) ?_
  simp only [pick, List.filterMap_cons, List.filterMap_nil, List.getElem?_cons_succ, List.getElem?_cons_zero]
  repeat (first | go_big_quiet_step (fail) | quiet_step (fail))
  refine wpQuiet_nil ?_
  refine mix_done_lit (by kernel_rfl) ?_
  have HB4 := Lib.hid b4
  have HO4 := Lib.hid ho4.bytes
  have HP4 := Lib.hid (HP.out.below b4)
  clear b3 b4 b4' hb3 hb4 hg4 ho4 hdd e0 e1 e2 e3 e4 e5 e6 e7 m0 m1 m2
  go_upto_region 6 with fail
  obtain ⟨m0, m1, m2⟩ := HP4.out.box.three
  obtain ⟨e0, e1, e2, e3, e4, e5, e6, e7⟩ := HP4.out.cells HX.out
  have p0 := Near.cell (w := w4.drew) (row := none) (show w4.drew.cell? ⟨c, 0, none⟩ = _ from m0) (by simp)
  have q1 := Near.cell (w := w4.drew) (row := none) (show w4.drew.cell? ⟨rg, i * 8 + 1, none⟩ = _ from e1) (by simp)
  refine wp_region_mix (fun w' => ∃ x : Near w4.drew none, w' = x.world) [10] 12 (by kernel_rfl) rfl ?_
  refine mix_reads_lit [0, 1, 2, 3, 4, 5, 6, 7, 8, 9] 2 (by kernel_rfl) (by kernel_rfl) (by kernel_rfl) (by kernel_rfl) rfl (NearC.of (World.grownBy.refl _ _)) ?_
  simp only [pick, List.filterMap_cons, List.filterMap_nil, List.getElem?_cons_succ, List.getElem?_cons_zero]
  repeat (first | go_big_quiet_step (fail) | quiet_step (fail))
  refine wpQuiet_nil ?_
  clear p0 q1 e0 e1 e2 e3 e4 e5 e6 e7 m0 m1 m2
  have b0 : Below w4.heap.size w4 w4.drew := (Below.refl _ _).drew
  refine mix_deed_lit 10 1 (by kernel_rfl) (by kernel_rfl) rfl (fun K hK => ?_)
  simp only [comesUp, List.getElem?_cons_succ, List.getElem?_cons_zero]
  refine if_mk rfl ?_
  go_simp
  refine (write_to HP4.out.disk.drew HO.out.disk hn (HP4.out.heldF.more (Nat.le_refl _)) page.id _ _ HE.out (HO4.out.below b0) A (fun wx hx => HS.out wx ((Beside.of_below HB4.out).same ((show Beside F w4 wx from ⟨hx.os, hx.tape, hx.output, hx.size, hx.block⟩).mono HFU.out)))).mono ?_
  rintro e w5 ⟨F5, l5, v5, rfl, hE5, hd5, hb5, hg5⟩
  have hb5' : Beside F w4 w5 := ⟨hb5.os, hb5.tape, hb5.output, hb5.size, hb5.block⟩
  have hg5' : Grows F w4 F5 w5 := hg5
  refine hK _ _ (fun h => by simp [keeps] at h) ?_
  clear hK K
  refine mix_flat_lit [11] 0 (by kernel_rfl) (by kernel_rfl) (by kernel_rfl) (by kernel_rfl) rfl ?_
  simp only [pick, List.filterMap_cons, List.filterMap_nil, List.getElem?_cons_succ, List.getElem?_cons_zero]
  repeat (first | go_big_quiet_step (fail) | quiet_step (fail))
  refine wpQuiet_nil ?_
  refine mix_done_lit (by kernel_rfl) ?_
  have HP5 := Lib.hid (HP4.out.disks hd5 hb5' hg5')
  have HE5 := Lib.hid (show ErrIs w5 A w4.heap.size l5 kk v5 from hE5)
  have HB5 := Lib.hid hb5'
  have HG5 := Lib.hid hg5'
  have hs45 := hb5'.size
  have hs04 := HB4.out.size
  have HC5 := Lib.hid (show CIn (More U w w5) w5 c dp rg rc { C with disk := E } from ⟨F5, M, xs, HP5.out, fun k hk => by
      obtain ⟨h1, h2⟩ := hg5' k hk
      rcases h1 with h1 | h1
      · exact .inl (HFU.out k h1)
      · exact .inr (by omega), fun k hk => .inl (HMU.out k hk), .inl hUc, .inl hUr, More.held HU.out (by omega)⟩)
  have HBU := Lib.hid (show Beside U w w5 from (Beside.of_below HB4.out).same (hb5'.mono HFU.out))
  clear b0 hE5 hd5 hb5 hg5 hb5' hg5'
  have hsl : Ch.slot { C with disk := E } i = ⟨page, true, true, used, pins⟩ := by
    obtain ⟨y, hy, hys⟩ := HP5.out.at (i := i) hi
    rw [HX.out] at hy; cases hy; exact hys.symm
  obtain ⟨ba', bc', e0, e1, e2, e3, e4, e5, e6, e7, -, hfr⟩ := HC5.out.cells (i := i) hi
  have f5 := hfr (i * 8 + 5)
  clear hfr
  rw [hsl] at e0 e1 e2 e3 e4 e5 e6 e7
  have HC6 := Lib.hid (fun b : Bool => HC5.out.cell (i := i) hi 5 (.bool b) ⟨page, true, b, used, pins⟩ (by decide) (by rw [hsl]) (fun _ _ => by rw [hsl]; rfl))
  have HG6 := Lib.hid (fun b : Bool => grownBy_set (World.grownBy.refl w5 (some rg)) (i * 8 + 5) (.bool b))
  clear hsl
  have fin : ∀ (b : Bool) (l : List Int) (v : Value) (w7 : World), b = decide (kk ≠ 0) → Below w5.heap.size (w5.setCell ⟨rg, i * 8 + 5, none⟩ (.bool b)) w7 → ErrIs w7 A w.heap.size l kk v → CAct U w A c dp rg rc D kk (.returned v) w7 := by
    intro b l v w7 hb hw hE
    have hsz : (w5.setCell ⟨rg, i * 8 + 5, none⟩ (.bool b)).heap.size = w5.heap.size := by simp
    have hw' : Below (w5.setCell ⟨rg, i * 8 + 5, none⟩ (.bool b)).heap.size (w5.setCell ⟨rg, i * 8 + 5, none⟩ (.bool b)) w7 := by rw [hsz]; exact hw
    refine ⟨l, v, rfl, hE, ?_, ?_⟩
    · have h1 := (HC6.out b).below hw'
      rw [← HD1.out, show Ch.set { C with disk := E } i ⟨page, true, b, used, pins⟩ = { Ch.set C i ⟨page, true, decide (kk ≠ 0), used, pins⟩ with disk := E } by rw [hb]; rfl] at *
      exact h1.mono (fun k hk => hk.imp id fun h => ⟨h.1, by have := hw'.size; omega⟩) (More.held HU.out (by have := hw'.size; omega))
    · exact (HBU.out.same (Beside.of_grownO (HG6.out b) fun k hk => by cases hk; exact hUr)).same (Beside.of_below hw')
  have FIN := Lib.hid fin
  clear fin
  by_cases hk : kk = 0
  · subst hk
    obtain ⟨rfl, rfl⟩ := HE5.out.isNil
    go_wp2_with (go_at_call 43; (refine (faultWrap_nil _ _).mono ?_); (rintro e w7 ⟨rfl, rfl⟩))
    go_ret
    exact FIN.out false [] _ _ rfl (Below.refl _ _) (ErrIs.nil _ _ _)
  · obtain ⟨t5, x5, rfl⟩ := HE5.out.iface hk
    go_wp2_with (go_at_call 43; (refine (faultWrap_any _ _ kk _ _ A w.heap.size (((HE5.out.mono hs04).grown (HG6.out true) (fun g hg => by cases hg; exact HU.out _ hUr))) hk (by simp; omega)).mono ?_); (rintro e w7 ⟨⟨v7, rfl, hE7⟩, hb7⟩); (have HE7 := Lib.hid hE7); (have HB7 := Lib.hid hb7); (clear hE7 hb7))
    go_ret
    exact FIN.out true _ _ _ (by simp [hk]) (by have := HB7.out; simpa using this) HE7.out
end Go.Proofs.YtflbioiildndoaaGreatDoor

/- cache: stores into a whole slot, into the hand; room -/
namespace Go.Proofs.YtflbioiildndoaaGreatDoor
open Go.RowKit
set_option linter.unusedVariables false
set_option linter.unusedSimpArgs false

/-- a world in which a slot's eight cells were stored -/
def fill8 (w : World) (rg i : Nat) (x : SlotX) : World :=
  (((((((w.setCell ⟨rg, i * 8, none⟩ (.int .i64 x.1.page.kind)).setCell ⟨rg, i * 8 + 1, none⟩ (.int .i64 x.1.page.id)).setCell ⟨rg, i * 8 + 2, none⟩ (.int .u64 (x.1.page.gen : Int))).setCell ⟨rg, i * 8 + 3, none⟩ (.slice x.2.1 x.1.page.body.length x.2.2)).setCell ⟨rg, i * 8 + 4, none⟩ (.bool x.1.full)).setCell ⟨rg, i * 8 + 5, none⟩ (.bool x.1.dirty)).setCell ⟨rg, i * 8 + 6, none⟩ (.bool x.1.used)).setCell ⟨rg, i * 8 + 7, none⟩ (.int .i64 x.1.pins)
theorem fill8_grown (w : World) (rg i : Nat) (x : SlotX) : w.grownBy (fill8 w rg i x) (some rg) := by
  unfold fill8
  repeat (first | refine grownBy_set ?_ _ _ | exact World.grownBy.refl _ _)
theorem fill8_row {w : World} {rg n rc i : Nat} {xs : List SlotX} {x : SlotX} (h : OwnR eCs w 0 (.slice (some ⟨rg, 0, none⟩) n rc) xs) (hx : xs[i]? = some x) (y : SlotX) : OwnR eCs (fill8 w rg i y) 0 (.slice (some ⟨rg, 0, none⟩) n rc) (xs.set i y) := by
  obtain ⟨⟨⟨k, d, g, b⟩, f, dt, us, pn⟩, ba, bc⟩ := x
  obtain ⟨⟨⟨k', d', g', b'⟩, f', dt', us', pn'⟩, ba', bc'⟩ := y
  have hl : i < xs.length := (List.getElem?_eq_some_iff.1 hx).1
  have hat : ∀ (ys : List SlotX) (z : SlotX), i < ys.length → (ys.set i z)[i]? = some z := fun ys z hz => by simp [hz]
  have s0 := OwnR.set eCs_ok h hx (j := 0) (y := (⟨⟨k', d, g, b⟩, f, dt, us, pn⟩, ba, bc)) (u := .int .i64 k') (by decide) rfl
  have s1 := OwnR.set eCs_ok s0 (hat _ _ hl) (j := 1) (y := (⟨⟨k', d', g, b⟩, f, dt, us, pn⟩, ba, bc)) (u := .int .i64 d') (by decide) rfl
  have s2 := OwnR.set eCs_ok s1 (hat _ _ (by simpa using hl)) (j := 2) (y := (⟨⟨k', d', g', b⟩, f, dt, us, pn⟩, ba, bc)) (u := .int .u64 (g' : Int)) (by decide) rfl
  have s3 := OwnR.set eCs_ok s2 (hat _ _ (by simpa using hl)) (j := 3) (y := (⟨⟨k', d', g', b'⟩, f, dt, us, pn⟩, ba', bc')) (u := .slice ba' b'.length bc') (by decide) rfl
  have s4 := OwnR.set eCs_ok s3 (hat _ _ (by simpa using hl)) (j := 4) (y := (⟨⟨k', d', g', b'⟩, f', dt, us, pn⟩, ba', bc')) (u := .bool f') (by decide) rfl
  have s5 := OwnR.set eCs_ok s4 (hat _ _ (by simpa using hl)) (j := 5) (y := (⟨⟨k', d', g', b'⟩, f', dt', us, pn⟩, ba', bc')) (u := .bool dt') (by decide) rfl
  have s6 := OwnR.set eCs_ok s5 (hat _ _ (by simpa using hl)) (j := 6) (y := (⟨⟨k', d', g', b'⟩, f', dt', us', pn⟩, ba', bc')) (u := .bool us') (by decide) rfl
  have s7 := OwnR.set eCs_ok s6 (hat _ _ (by simpa using hl)) (j := 7) (y := (⟨⟨k', d', g', b'⟩, f', dt', us', pn'⟩, ba', bc')) (u := .int .i64 pn') (by decide) rfl
  simp only [List.set_set] at s7
  exact s7
/-- a whole slot is stored; its body lies in memory that is none of U's -/
theorem CIn.fill {U V : Nat → Prop} {w : World} {c dp rg rc : Nat} {C : Ch.Cache} (h : CIn U w c dp rg rc C) {i : Nat} (hi : i < C.slots.length) (x : SlotX) (hb : BytesAt w x.body x.1.page.body) (hn : ∀ k, x.body.ownBlock = some k → ¬ U k ∧ k < w.heap.size ∧ V k) (hv : ∀ k, U k → V k) (hV : Held V w) :
    CIn V (fill8 w rg i x) c dp rg rc (Ch.set C i x.1) := by
  obtain ⟨F, M, xs, h1, h2, h3, h4, h5, h6⟩ := h
  obtain ⟨y, hy, hys⟩ := h1.at hi
  have hg := fill8_grown w rg i x
  have hrow := fill8_row h1.row hy x
  refine ⟨F, fun k => M k ∨ x.body.ownBlock = some k, xs.set i x, h1.setSlot hi hg hrow (fun k hk => .inl hk) (fun k hk => ?_) (hb.on fun k hk => hg.block k (hn k hk).2.1 (by intro e; cases e; exact (hn _ hk).1 h5)) (.inr fun k hk => .inr hk), fun k hk => hv k (h2 k hk), fun k hk => ?_, hv _ h4, hv _ h5, hV.more hg.size⟩
  · rcases hk with hk | hk
    · exact ⟨.inl hk, Nat.lt_of_lt_of_le (h1.heldM k hk) hg.size⟩
    · obtain ⟨n1, n2, n3⟩ := hn k hk
      exact ⟨.inr ⟨fun e => n1 (by rw [e]; exact h4), fun e => n1 (by rw [e]; exact h5), fun e => n1 (h2 k e)⟩, Nat.lt_of_lt_of_le n2 hg.size⟩
  · rcases hk with hk | hk
    · exact hv k (h3 k hk)
    · exact (hn k hk).2.2
/-- a slot is emptied -/
theorem CIn.clear {U : Nat → Prop} {w : World} {c dp rg rc : Nat} {C : Ch.Cache} (h : CIn U w c dp rg rc C) {i : Nat} (hi : i < C.slots.length) : CIn U (fill8 w rg i (Ch.Slot.zero, none, 0)) c dp rg rc (Ch.set C i Ch.Slot.zero) :=
  h.fill hi (Ch.Slot.zero, none, 0) ⟨none, 0, rfl, Nat.le_refl _, Nat.zero_le _, .inl rfl⟩ (fun k hk => by cases hk) (fun _ hk => hk) h.held
/-- the hand is stored -/
theorem CIn.hand {U : Nat → Prop} {w : World} {c dp rg rc : Nat} {C : Ch.Cache} (h : CIn U w c dp rg rc C) (n : Nat) : CIn U (w.setCell ⟨c, 2, none⟩ (.int .i64 (n : Int))) c dp rg rc { C with hand := n } := by
  obtain ⟨F, M, xs, h1, h2, h3, h4, h5, h6⟩ := h
  have hg := grownBy_set (World.grownBy.refl w (some c)) 2 (.int .i64 (n : Int))
  exact ⟨F, M, xs, h1.setHand hg (h1.box.put 2 _), h2, h3, h4, h5, h6.more hg.size⟩
/-- what a call makes of it that hands back a slot's number and an error -/
def CSlot (U : Nat → Prop) (w : World) (A : Nat → Addr) (c dp rg rc : Nat) (C : Ch.Cache) (i k : Nat) (e : Ending) (w' : World) : Prop :=
  ∃ l v, e = .returned (.tuple #[.int .i64 (i : Int), v]) ∧ ErrIs w' A w.heap.size l k v ∧ CIn (More U w w') w' c dp rg rc C ∧ Beside U w w'
end Go.Proofs.YtflbioiildndoaaGreatDoor

/- cache: room -/
namespace Go.Proofs.YtflbioiildndoaaGreatDoor
open Go.RowKit
set_option linter.unusedVariables false
set_option linter.unusedSimpArgs false

theorem Ch.round_step (C : Ch.Cache) (k N j : Nat) (hk : k < N) (hj : (C.hand + k) % C.slots.length = j) : Ch.round C k (N - k) =
    if 0 < (Ch.slot C j).pins then Ch.round C (k + 1) (N - (k + 1))
    else if (Ch.slot C j).used = true then Ch.round (Ch.set C j { Ch.slot C j with used := false }) (k + 1) (N - (k + 1))
    else if (Ch.write C j).2 = 0 then ({ Ch.set (Ch.write C j).1 j Ch.Slot.zero with hand := (j + 1) % C.slots.length }, j, 0) else ((Ch.write C j).1, 0, (Ch.write C j).2) := by
  obtain ⟨m, hm⟩ : ∃ m, N - k = m + 1 := ⟨N - k - 1, by omega⟩
  rw [hm, Ch.round, show N - (k + 1) = m by omega, hj]

theorem CIn.fit {U : Nat → Prop} {w wr wr' : World} {c dp rg rc : Nat} {C : Ch.Cache} (h : CIn (More U w wr) wr' c dp rg rc C) (hU : Held U w) (h1 : w.heap.size ≤ wr.heap.size) (h2 : wr.heap.size ≤ wr'.heap.size) : CIn (More U w wr') wr' c dp rg rc C :=
  h.mono (fun k hk => hk.imp id fun h => ⟨h.1, by omega⟩) (More.held hU (by omega))
theorem CIn.fit2 {U : Nat → Prop} {w w1 w2 : World} {c dp rg rc : Nat} {C : Ch.Cache} (h : CIn (More (More U w w1) w1 w2) w2 c dp rg rc C) (hU : Held U w) (h1 : w.heap.size ≤ w1.heap.size) (h2 : w1.heap.size ≤ w2.heap.size) : CIn (More U w w2) w2 c dp rg rc C :=
  h.mono (More.trans h1 h2) (More.held hU (by omega))
theorem CIn.own {U : Nat → Prop} {w : World} {c dp rg rc : Nat} {C : Ch.Cache} (h : CIn U w c dp rg rc C) : U c ∧ U rg := by
  obtain ⟨F, M, xs, h1, h2, h3, h4, h5, h6⟩ := h; exact ⟨h4, h5⟩
theorem Beside.more {U : Nat → Prop} {w w1 w2 : World} (h : Beside U w w1) (hU : Held U w) (k : Beside (More U w w1) w1 w2) : Beside U w w2 := h.trans (Grows.more hU h.size) k

set_option maxRecDepth 100000 in
set_option maxHeartbeats 4000000 in
theorem croom_is {S : Nat → Prop} [Has S 1] [Has S 2] [Has S 3] [Has S 5] [Has S 7] {U : Nat → Prop} {w : World} {c dp rg rc n : Nat} {C D : Ch.Cache} {i kk : Nat} (h : CIn U w c dp rg rc C) (ho : Ch.Ok n C) (hn : n ≤ 1000000) (hD : Ch.room C = (D, i, kk)) (A : Nat → Addr) (hsU : ∀ w1, Beside U w w1 → SentsOn S w1 A) :
    Calls Tryz.prog 65 #[.pointer (some ⟨c, 0, none⟩)] w (CSlot U w A c dp rg rc D i kk) := by
  obtain ⟨m0, m1, m2⟩ := h.box.three
  obtain ⟨N, hN⟩ : ∃ N, C.slots.length = N := ⟨_, rfl⟩
  have hlen := ho.len
  have hU : Held U w := h.held
  have hUr : U rg := h.own.2
  have hUc : U c := h.own.1
  have HC := Lib.hid h
  have HO := Lib.hid ho
  have HS := Lib.hid hsU
  have HU := Lib.hid hU
  have HNN := Lib.hid hN
  have HD := Lib.hid hD
  rw [hN] at m1 hlen
  clear h ho hsU hU hN hD
  go_enter Tryz.func65, Tryz.ntmps65
  go_wp2_with fail
  go_loopw [21] (fun i wr => ∃ k : Nat, k ≤ N ∧ i = .int .i64 k ∧ Ch.firstK (fun s => !s.full) C k (N - k) = Ch.empty C ∧ Below w.heap.size w wr) (fun i _ => N - (intOf i).toNat)
  case atStart => exact ⟨0, by omega, rfl, by rw [← HNN.out]; rfl, Below.refl _ _⟩
  case round =>
    obtain ⟨k, hk, rfl, hf, hbr⟩ := hrel
    have HF := Lib.hid hf
    have HBR := Lib.hid hbr
    clear hf hbr m0 m1 m2
    by_cases hlt : k < N
    · obtain ⟨ba, bc, e0, e1, e2, e3, e4, e5, e6, e7, -, -⟩ := (HC.out.below HBR.out).cells (i := k) (by rw [HNN.out]; exact hlt)
      have HST := Lib.hid (Ch.firstK_step (fun s => !s.full) C k (by rw [HNN.out]; exact hlt))
      rw [HNN.out] at HST
      have hlt1 : (k : Int) < (N : Int) := by omega
      generalize Ch.slot C k = x at *
      obtain ⟨page, full, dirty, used, pins⟩ := x
      simp only at e0 e1 e2 e3 e4 e5 e6 e7
      cases full with
      | false =>
        go_wp2_with fail
        go_returns
        have he : Ch.empty C = (k : Int) := by rw [← HF.out, HST.out]; rfl
        have hr := HD.out
        unfold Ch.room at hr
        rw [he, if_pos (by omega)] at hr
        simp only [Prod.mk.injEq] at hr
        obtain ⟨rfl, rfl, rfl⟩ := hr
        have hb := HBR.out.alloc HBR.out.size (.cells #[.int .i64 page.kind, .int .i64 page.id, .int .u64 (page.gen : Int), .slice ba page.body.length bc, .bool false, .bool dirty, .bool used, .int .i64 pins] 107)
        exact ⟨[], _, by simp, ErrIs.nil _ _ _, (HC.out.below hb).moreOf HU.out hb.size, Beside.of_below hb⟩
      | true =>
        go_wp2_with fail
        go_roundw
        case rel => exact ⟨k + 1, by omega, by go_num, by rw [← HF.out, HST.out]; rfl, HBR.out.alloc HBR.out.size _⟩
        case measure => simp [intOf]; omega
    · obtain rfl : k = N := by omega
      have he : Ch.empty C = -1 := by rw [← HF.out, Nat.sub_self]; rfl
      have HR := Lib.hid (show Ch.round C 0 (2 * k) = (D, i, kk) by
        have hr := HD.out
        unfold Ch.room at hr
        rw [he, if_neg (by omega), HNN.out] at hr
        exact hr)
      clear he
      have HC1 := Lib.hid (HC.out.below HBR.out)
      obtain ⟨m0, m1, m2⟩ := HC1.out.box.three
      rw [HNN.out] at m1
      go_wp2_with fail
      go_loopw [33] (fun i' wr' => ∃ (j : Nat) (Cj : Ch.Cache), j ≤ 2 * k ∧ i' = .int .i64 j ∧ Ch.round Cj j (2 * k - j) = (D, i, kk) ∧ Ch.Ok n Cj ∧ Cj.slots.length = k ∧ CIn (More U w wr') wr' c dp rg rc Cj ∧ Beside U w wr') (fun i' _ => 2 * k - (intOf i').toNat)
      case atStart => exact ⟨0, C, by omega, rfl, HR.out, HO.out, HNN.out, HC1.out.moreOf HU.out HBR.out.size, Beside.of_below HBR.out⟩
      case round =>
        obtain ⟨j, Cj, hj, rfl, hrd, hok, hlj, hcj, hbj⟩ := hrel
        have HRD := Lib.hid hrd
        have HOK := Lib.hid hok
        have HLJ := Lib.hid hlj
        have HCJ := Lib.hid hcj
        have HBJ := Lib.hid hbj
        have hhand := hok.hand
        rw [hlj] at hhand
        clear m0 m1 m2 hrd hok hlj hcj hbj
        obtain ⟨m0, m1, m2⟩ := HCJ.out.box.three
        rw [HLJ.out] at m1
        by_cases hlt2 : j < 2 * k
        · obtain ⟨q, hq⟩ : ∃ q, (Cj.hand + j) % k = q := ⟨_, rfl⟩
          have hqk : q < k := by rw [← hq]; exact Nat.mod_lt _ (by omega)
          have HST := Lib.hid (Ch.round_step Cj j (2 * k) q hlt2 (by rw [HLJ.out]; exact hq))
          rw [HLJ.out] at HST
          have g1 : (j : Int) < 2 * (k : Int) := by omega
          have g2 : IntKind.i64.wrap ((Cj.hand : Int) + (j : Int)) = (Cj.hand : Int) + (j : Int) := IntWalk.i64_in _ (by omega)
          have g3 : ((Cj.hand : Int) + (j : Int)).tmod (k : Int) = (q : Int) := by rw [← hq]; rw [Int.tmod_eq_emod_of_nonneg (by omega)]; push_cast; rfl
          have g4 : (q : Int) < (k : Int) := by omega
          have g5 : ¬ (k : Int) = 0 := by omega
          have hqs : q < Cj.slots.length := by rw [HLJ.out]; exact hqk
          obtain ⟨ba, bc, e0, e1, e2, e3, e4, e5, e6, e7, -, hfr⟩ := HCJ.out.cells (i := q) hqs
          have f6 := hfr (q * 8 + 6)
          have HFR := Lib.hid hfr
          clear hfr hq
          have HSLO := Lib.hid (HOK.out.slot hqs)
          obtain ⟨x, hx⟩ : ∃ x, Ch.slot Cj q = x := ⟨_, rfl⟩
          have HXS := Lib.hid hx
          rw [hx] at e0 e1 e2 e3 e4 e5 e6 e7 HST HSLO
          clear hx
          obtain ⟨page, full, dirty, used, pins⟩ := x
          simp only at e0 e1 e2 e3 e4 e5 e6 e7
          by_cases hp : 0 < pins
          · have HST' := Lib.hid (HST.out.trans (if_pos hp))
            clear HST
            go_wp2_with fail
            go_roundw
            case rel => exact ⟨j + 1, Cj, by omega, by go_num, by rw [← HST'.out]; exact HRD.out, HOK.out, HLJ.out, HCJ.out, HBJ.out⟩
            case measure => simp [intOf]; omega
          · cases used with
            | true =>
              have HST' := Lib.hid (HST.out.trans ((if_neg hp).trans (if_pos rfl)))
              clear HST
              go_wp2_with fail
              go_roundw
              case rel => exact ⟨j + 1, Ch.set Cj q ⟨page, full, dirty, false, pins⟩, by omega, by go_num, by rw [← HST'.out]; exact HRD.out, HOK.out.set q ⟨HSLO.out.1, HSLO.out.2.1, HSLO.out.2.2⟩, (Ch.set_len _ _ _).trans HLJ.out,
                (HCJ.out.cell (i := q) hqs 6 (.bool false) ⟨page, full, dirty, false, pins⟩ (by decide) (by rw [HXS.out]) (fun _ _ => by rw [HXS.out]; rfl)).fit HU.out HBJ.out.size (by simp), HBJ.out.same (Beside.of_grown (grownBy_set (World.grownBy.refl _ (some rg)) (q * 8 + 6) (.bool false)) hUr)⟩
              case measure => simp [intOf]; omega
            | false =>
              obtain ⟨D1, k1, hw⟩ : ∃ D1 k1, Ch.write Cj q = (D1, k1) := ⟨_, _, rfl⟩
              have HST' := Lib.hid (HST.out.trans ((if_neg hp).trans (if_neg (by simp))))
              rw [hw] at HST'
              have HW := Lib.hid hw
              clear HST hw
              have hgeo := Ch.write_geo Cj q
              rw [HW.out] at hgeo
              have HGEO := Lib.hid hgeo
              clear hgeo
              go_upto_region 14 with (go_at_call 42; (refine (cwrite_is HCJ.out HOK.out hn q hqs HW.out A (fun wx hx => HS.out wx (HBJ.out.more HU.out hx))).mono ?_); (rintro e w3 ⟨l3, v3, rfl, hE3, hC3, hB3⟩); (have HE3 := Lib.hid hE3); (have HC3 := Lib.hid hC3); (have HB3 := Lib.hid hB3); (clear hE3 hC3 hB3 m0 m1 m2 e0 e1 e2 e3 e4 e5 e6 e7 f6))
              have hs3 : wr.heap.size ≤ w3.heap.size := HB3.out.size
              have hsr : w.heap.size ≤ wr.heap.size := HBJ.out.size
              have HBW3 := Lib.hid (HBJ.out.more HU.out HB3.out)
              have HCW3 := Lib.hid (HC3.out.fit2 HU.out hsr hs3)
              by_cases hk1 : k1 = 0
              · subst hk1
                obtain ⟨rfl, rfl⟩ := HE3.out.isNil
                have HFIN := Lib.hid (HRD.out.symm.trans (HST'.out.trans (if_pos rfl)))
                clear HST'
                obtain ⟨q2, hq2⟩ : ∃ q2, (q + 1) % k = q2 := ⟨_, rfl⟩
                rw [hq2] at HFIN
                have g6 : IntKind.i64.wrap ((q : Int) + 1) = (q : Int) + 1 := IntWalk.i64_in _ (by omega)
                have g7 : ((q : Int) + 1).tmod (k : Int) = (q2 : Int) := by rw [← hq2]; rw [Int.tmod_eq_emod_of_nonneg (by omega)]; push_cast; rfl
                have g8 : q2 < k := by rw [← hq2]; exact Nat.mod_lt _ (by omega)
                clear hq2
                obtain ⟨m0, m1, m2⟩ := HCW3.out.box.three
                have f2 := HCW3.out.box.free 2 _ rfl
                go_upto_region 17 with fail
                refine wp_name fun V hV => ?_
                have HC4 := Lib.hid (show CIn (More U w w3) V c dp rg rc { D1 with hand := q2 } by rw [hV]; exact HCW3.out.hand q2)
                have HB4 := Lib.hid (show Beside U w V by rw [hV]; exact HBW3.out.same (Beside.of_grown (grownBy_set (World.grownBy.refl _ (some c)) 2 _) hUc))
                have hs4 : V.heap.size = w3.heap.size := by rw [hV]; simp
                clear hV m0 m1 m2 f2
                have hq4 : q < ({ D1 with hand := q2 } : Ch.Cache).slots.length := by have := HGEO.out.1; simp only at this ⊢; omega
                obtain ⟨ba', bc', e0, e1, e2, e3, e4, e5, e6, e7, -, hfr⟩ := HC4.out.cells (i := q) hq4
                obtain ⟨f0, f1, f2, f3, f4, f5, f6, f7⟩ := (⟨hfr (q * 8), hfr (q * 8 + 1), hfr (q * 8 + 2), hfr (q * 8 + 3), hfr (q * 8 + 4), hfr (q * 8 + 5), hfr (q * 8 + 6), hfr (q * 8 + 7)⟩ : _ ∧ _ ∧ _ ∧ _ ∧ _ ∧ _ ∧ _ ∧ _)
                clear hfr
                have HC5 := Lib.hid (HC4.out.clear hq4)
                have HG5 := Lib.hid (fill8_grown V rg q (Ch.Slot.zero, none, 0))
                have HS4 := Lib.hid hs4
                clear hs4
                go_wp2_with fail
                go_returns
                obtain ⟨rfl, rfl, rfl⟩ := (by simpa only [Prod.mk.injEq] using HFIN.out : _ ∧ _ ∧ _)
                have hsz := HG5.out.size
                refine ⟨[], _, rfl, ErrIs.nil _ _ _, ?_, HB4.out.same (Beside.of_grown HG5.out hUr)⟩
                exact HC5.out.fit HU.out (by omega) (by have := HS4.out; omega)
              · obtain ⟨t3, x3, rfl⟩ := HE3.out.iface hk1
                have HFIN := Lib.hid (HRD.out.symm.trans (HST'.out.trans (if_neg hk1)))
                clear HST'
                go_wp2_with fail
                go_returns
                obtain ⟨rfl, rfl, rfl⟩ := (by simpa only [Prod.mk.injEq] using HFIN.out : _ ∧ _ ∧ _)
                exact ⟨l3, _, rfl, HE3.out.mono hsr, HCW3.out, HBW3.out⟩
        · obtain rfl : j = 2 * k := by omega
          have hr := HRD.out
          rw [Nat.sub_self] at hr
          obtain ⟨hr1, hr2, hr3⟩ := (by simpa only [Ch.round, Prod.mk.injEq] using hr : _ ∧ _ ∧ _)
          subst hr1 hr2 hr3
          clear hr
          have hsr : w.heap.size ≤ wr.heap.size := HBJ.out.size
          have hsn := HS.out _ HBJ.out
          have g3 := hsn.cellOn 3 Has.has
          unfold sentG at g3
          go_wp2_with (go_at_call 41; (refine (faultNew_any _ 3 _ _ A w.heap.size (sent_err 3 (by decide) (by decide)) (by decide) hsr).mono ?_); (rintro e w3 ⟨⟨v3, rfl, hE3⟩, hb3⟩); (have HE3 := Lib.hid hE3); (have HB3 := Lib.hid hb3); (clear hE3 hb3))
          go_returns
          exact ⟨_, _, rfl, HE3.out, (HCJ.out.below HB3.out).fit HU.out hsr HB3.out.size, HBJ.out.same (Beside.of_below HB3.out)⟩
end Go.Proofs.YtflbioiildndoaaGreatDoor

/- cache: load -/
namespace Go.Proofs.YtflbioiildndoaaGreatDoor
open Go.RowKit
set_option linter.unusedVariables false
set_option linter.unusedSimpArgs false

theorem drew_size5 (w : World) : w.drew.heap.size = w.heap.size := rfl
set_option maxRecDepth 100000 in
set_option maxHeartbeats 2000000 in
theorem cload_is {S : Nat → Prop} [Has S 1] [Has S 2] [Has S 3] [Has S 5] [Has S 7] {U : Nat → Prop} {w : World} {c dp rg rc n : Nat} {C D : Ch.Cache} {i kk : Nat} (h : CIn U w c dp rg rc C) (ho : Ch.Ok n C) (hn : n ≤ 1000000) (id : Int) (hid : Bk.In C.disk id) (hD : Ch.load C id = (D, i, kk)) (A : Nat → Addr) (hsU : ∀ w1, Beside U w w1 → SentsOn S w1 A) :
    Calls Tryz.prog 55 #[.pointer (some ⟨c, 0, none⟩), .int .i64 id] w (CSlot U w A c dp rg rc D i kk) := by
  obtain ⟨a, ha⟩ : ∃ a, Ch.at_ C id = a := ⟨_, rfl⟩
  have hlen := ho.len
  have hU : Held U w := h.held
  obtain ⟨hUc, hUr⟩ := h.own
  have har : a = -1 ∨ (0 ≤ a ∧ a < C.slots.length) := by
    rw [← ha]
    rcases Ch.firstK_range (Ch.has id) C C.slots.length 0 with h1 | ⟨h1, h2, _⟩
    · exact .inl h1
    · exact .inr ⟨by simpa [Ch.at_] using h1, by simpa [Ch.at_] using h2⟩
  have HAT := Lib.hid (show Calls Tryz.prog 64 #[.pointer (some ⟨c, 0, none⟩), .int .i64 id] w fun e w' => e = .returned (.int .i64 a) ∧ Below w.heap.size w w' by
    obtain ⟨F, M, xs, h1, _⟩ := h
    exact at_is h1 hlen.2 id a ha)
  unfold Ch.load at hD
  rw [ha] at hD
  have HC := Lib.hid h
  have HO := Lib.hid ho
  have HS := Lib.hid hsU
  have HU := Lib.hid hU
  have HD := Lib.hid hD
  have HID := Lib.hid hid
  clear h ho hsU hU hD ha hid
  go_enter Tryz.func55, Tryz.ntmps55
  rcases har with rfl | ⟨ha1, ha2⟩
  · have hD := HD.out
    rw [if_neg (by decide)] at hD
    obtain ⟨D1, i1, k1, hr⟩ : ∃ D1 i1 k1, Ch.room C = (D1, i1, k1) := ⟨_, _, _, rfl⟩
    rw [hr] at hD
    simp only at hD
    have hok1 := HO.out.room
    have hge := Ch.room_geo C
    rw [hr] at hok1 hge
    have HR := Lib.hid hr
    have HOK := Lib.hid hok1
    have HGE := Lib.hid hge
    clear HD
    have HD := Lib.hid hD
    clear hr hok1 hge hD
    go_upto_region 6 with (first
      | (go_at_call 64; (refine HAT.out.mono ?_); (rintro e w1 ⟨rfl, hb1⟩); (have HB1 := Lib.hid hb1); (clear hb1))
      | (go_at_call 65; (refine (croom_is (HC.out.below HB1.out) HO.out hn HR.out A (fun wx hx => HS.out wx ((Beside.of_below HB1.out).same hx))).mono ?_); (rintro e w2 ⟨l2, v2, rfl, hE2, hC2, hB2⟩); (have HE2 := Lib.hid hE2); (have HC2 := Lib.hid hC2); (have HB2 := Lib.hid hB2); (clear hE2 hC2 hB2)))
    have hs1 := HB1.out.size
    have hs2 : w1.heap.size ≤ w2.heap.size := HB2.out.size
    have HBW2 := Lib.hid ((Beside.of_below HB1.out).same HB2.out)
    have HCW2 := Lib.hid (show CIn (More U w w2) w2 c dp rg rc D1 from HC2.out.mono (fun k hk => hk.imp (fun h => h) fun h => ⟨by omega, h.2⟩) (More.held HU.out (by omega)))
    by_cases hk1 : k1 = 0
    · subst hk1
      obtain ⟨rfl, rfl⟩ := HE2.out.isNil
      have hD := HD.out
      rw [if_neg (by simp)] at hD
      clear HD
      have HD := Lib.hid hD
      clear hD
      obtain ⟨F, M, xs, hp2, hF2, hM2, -, -, hH2⟩ := HCW2.out
      have HDK := Lib.hid hp2.disk
      have hin : Bk.In D1.disk id := by
        have h1 := HID.out
        have h2 := HGE.out.2.2
        unfold Bk.In at h1 ⊢
        rw [show D1.disk.blocks = C.disk.blocks from h2]; exact h1
      have HIN := Lib.hid hin
      clear hp2 hF2 hM2 hH2 hin
      obtain ⟨m0, m1, m2⟩ := HCW2.out.box.three
      cases hoff : D1.disk.off with
      | true =>
        have hD := HD.out
        rw [if_pos hoff] at hD
        obtain ⟨rfl, rfl, rfl⟩ := (by simpa only [Prod.mk.injEq] using hD : _ ∧ _ ∧ _)
        clear hD HD
        go_upto_region 9 with (go_at_call 15; (refine (read_off HDK.out id HIN.out.1 HIN.out.2 hoff A (HS.out _ HBW2.out)).mono ?_); (rintro e w3 ⟨⟨v3, rfl, hE3⟩, hb3⟩); (have HE3 := Lib.hid hE3); (have HB3 := Lib.hid hb3); (clear hE3 hb3))
        obtain ⟨t3, x3, rfl⟩ := HE3.out.iface (by decide)
        go_wp2_with fail
        go_returns
        exact ⟨_, _, rfl, HE3.out.mono (by omega), (HCW2.out.below HB3.out).fit HU.out (by omega) HB3.out.size, HBW2.out.same (Beside.of_below HB3.out)⟩
      | false =>
        have hD := HD.out
        rw [if_neg (by rw [hoff]; decide)] at hD
        obtain ⟨l, hl⟩ : ∃ l, Bk.read D1.disk id.toNat = l := ⟨_, rfl⟩
        obtain ⟨pg, ok, pn, hop⟩ : ∃ pg ok pn, Pg.openAtL l id = (pg, ok, pn) := ⟨_, _, _, rfl⟩
        rw [hl, hop] at hD
        simp only at hD
        clear HD
        have HD := Lib.hid hD
        have HL := Lib.hid hl
        have HOP := Lib.hid hop
        clear hD hl hop
        go_upto_region 11 with (go_at_call 15; (refine (read_ok HDK.out HOK.out.1.disk id HIN.out.1 HIN.out.2 hoff l HL.out).mono ?_); (rintro e w3 ⟨⟨g3, rfl, ho3⟩, hb3⟩); (have HO3 := Lib.hid ho3); (have HB3 := Lib.hid hb3); (clear ho3 hb3))
        have hs3 : w2.heap.size ≤ w3.heap.size := HB3.out.size
        have HBW3 := Lib.hid (HBW2.out.same (Beside.of_below HB3.out))
        have HCW3 := Lib.hid (HCW2.out.below HB3.out)
        clear m0 m1 m2
        have HOA := Lib.hid (openAt_any (some ⟨g3, 0, none⟩) l.length l id w3 A (HS.out _ HBW3.out) HO3.out.bytes)
        rw [HOP.out] at HOA
        go_upto_region 12 with (go_at_call 82; (refine HOA.out.mono ?_); (rintro e w4 ⟨⟨a4, c4, v4, l4, rfl, ho4, hE4, -, -⟩, hb4⟩); (have HO4 := Lib.hid ho4); (have HE4 := Lib.hid hE4); (have HB4 := Lib.hid hb4); (clear ho4 hE4 hb4); (unfold pageV))
        obtain ⟨eb, heb⟩ : ∃ eb, w4.heap.size = eb := ⟨_, rfl⟩
        refine wp_name fun V hV => ?_
        have hvb : BoxAt V eb [.int .i64 pg.kind, .int .i64 pg.id, .int .u64 (pg.gen : Int), .slice a4 pg.body.length c4] ∧ Below w4.heap.size w4 V := by
          rw [hV]
          exact ⟨BoxAt.newAt _ _ heb [_, _, _, _] _, (Below.refl _ _).alloc (Nat.le_refl _) _⟩
        rw [heb]
        have hs4 : w3.heap.size ≤ w4.heap.size := HB4.out.size
        have hsV : w4.heap.size ≤ V.heap.size := hvb.2.size
        have HXV := Lib.hid hvb.1
        have HB3V := Lib.hid (below_step HB4.out hvb.2)
        have HEV := Lib.hid (HE4.out.below hvb.2)
        have HOV := Lib.hid (show Own V w3.heap.size _ _ from HO4.out.below hvb.2 (Nat.le_refl _))
        have HBWV := Lib.hid (HBW3.out.same (Beside.of_below HB3V.out))
        have HCV := Lib.hid (HCW3.out.below HB3V.out)
        clear hV hvb heb
        by_cases hok : ok = 0
        · subst hok
          obtain ⟨rfl, rfl⟩ := HEV.out.isNil
          have hD := HD.out
          rw [if_neg (by simp)] at hD
          obtain ⟨hD1, rfl, rfl⟩ := (by simpa only [Prod.mk.injEq] using hD : _ ∧ _ ∧ _)
          have HD1 := Lib.hid hD1
          clear hD HD hD1
          have hi1 : i1 < D1.slots.length := by
            have h1 := HOK.out.2
            have h2 : D1.slots.length = C.slots.length := HGE.out.1
            have h3 : i1 < C.slots.length := h1
            omega
          have hi2 : (i1 : Int) < (D1.slots.length : Int) := by omega
          go_upto_region 14 with fail
          obtain ⟨m0, m1, m2⟩ := HCV.out.box.three
          obtain ⟨x0, x1, x2, x3⟩ := HXV.out.four
          have p1 := Near.cell (w := V.drew) (row := none) (show V.drew.cell? ⟨c, 1, none⟩ = _ from m1) (by simp)
          have r0 := Near.cell (w := V.drew) (row := none) (show V.drew.cell? ⟨eb, 0, none⟩ = _ from x0) (by simp)
          have r1 := Near.cell (w := V.drew) (row := none) (show V.drew.cell? ⟨eb, 1, none⟩ = _ from x1) (by simp)
          have r2 := Near.cell (w := V.drew) (row := none) (show V.drew.cell? ⟨eb, 2, none⟩ = _ from x2) (by simp)
          have r3 := Near.cell (w := V.drew) (row := none) (show V.drew.cell? ⟨eb, 3, none⟩ = _ from x3) (by simp)
          refine wp_region_mix (fun w' => ∃ x : Near V.drew none, w' = x.world) [8] 9 (by kernel_rfl) rfl ?_
          refine mix_reads_lit [0, 1, 2, 3, 4, 5, 6, 7] 1 (by kernel_rfl) (by kernel_rfl) (by kernel_rfl) (by kernel_rfl) rfl (NearC.of (World.grownBy.refl _ _)) ?_
          simp only [pick, List.filterMap_cons, List.filterMap_nil, List.getElem?_cons_succ, List.getElem?_cons_zero]
          repeat (first | go_big_quiet_step (fail) | quiet_step (fail))
          refine wpQuiet_nil ?_
          clear p1 r0 r1 r2 r3 x0 x1 x2 x3 m0 m1 m2
          obtain ⟨ba', bc', e0, e1, e2, e3, e4, e5, e6, e7, -, hfr⟩ := HCV.out.cells (i := i1) hi1
          obtain ⟨f0, f1, f2, f3, f4, f5, f6, f7⟩ := (⟨hfr (i1 * 8), hfr (i1 * 8 + 1), hfr (i1 * 8 + 2), hfr (i1 * 8 + 3), hfr (i1 * 8 + 4), hfr (i1 * 8 + 5), hfr (i1 * 8 + 6), hfr (i1 * 8 + 7)⟩ : _ ∧ _ ∧ _ ∧ _ ∧ _ ∧ _ ∧ _ ∧ _)
          clear hfr
          have HFI := Lib.hid (HCV.out.fill (V := More U w V) hi1 (⟨pg, true, false, true, 0⟩, a4, c4) HOV.out.bytes
            (fun k hk => by
              have h1 := HOV.out.lt k hk
              have h2 : k < V.heap.size := h1.2
              refine ⟨fun hm => ?_, h2, .inr ⟨by omega, h2⟩⟩
              rcases hm with hm | hm
              · have := HU.out k hm; omega
              · omega)
            (fun k hk => hk.imp (fun h => h) fun h => ⟨h.1, by omega⟩) (More.held HU.out (by omega)))
          have HG := Lib.hid (fill8_grown V rg i1 (⟨pg, true, false, true, 0⟩, a4, c4))
          refine mix_deed_lit 8 0 (by kernel_rfl) (by kernel_rfl) rfl (fun K hK => ?_)
          simp only [comesUp, List.getElem?_cons_succ, List.getElem?_cons_zero]
          refine if_mk rfl ?_
          go_simp
          refine hK _ _ (fun h => by simp [keeps] at h) ?_
          clear hK K e0 e1 e2 e3 e4 e5 e6 e7 f0 f1 f2 f3 f4 f5 f6 f7
          refine mix_done_lit (by kernel_rfl) ?_
          refine q_name fun Z hZ => ?_
          have hZ' : Z = (fill8 V rg i1 (⟨pg, true, false, true, 0⟩, a4, c4)).drew := hZ
          clear hZ
          have HZ := Lib.hid (show CIn (More U w V) Z c dp rg rc (Ch.set D1 i1 ⟨pg, true, false, true, 0⟩) by rw [hZ']; exact HFI.out.below (Below.refl _ _).drew)
          have HZB := Lib.hid (show Beside U w Z by rw [hZ']; exact (HBWV.out.same (Beside.of_grown HG.out hUr)).drew)
          have HZS := Lib.hid (show V.heap.size ≤ Z.heap.size by rw [hZ', drew_size5]; exact HG.out.size)
          clear hZ'
          go_wp2_with fail
          go_returns
          refine ⟨[], _, rfl, ErrIs.nil _ _ _, ?_, HZB.out⟩
          rw [← HD1.out]
          exact HZ.out.fit HU.out (by omega) HZS.out
        · obtain ⟨t5, x5, rfl⟩ := HEV.out.iface hok
          have hD := HD.out
          rw [if_pos (by simpa using hok)] at hD
          obtain ⟨rfl, rfl, rfl⟩ := (by simpa only [Prod.mk.injEq] using hD : _ ∧ _ ∧ _)
          clear hD HD
          go_wp2_with fail
          go_returns
          exact ⟨_, _, rfl, HEV.out.mono (by omega), HCV.out.fit HU.out (by omega) (by omega), HBWV.out⟩
    · obtain ⟨t2, x2, rfl⟩ := HE2.out.iface hk1
      have hD := HD.out
      rw [if_pos (by simpa using hk1)] at hD
      obtain ⟨rfl, rfl, rfl⟩ := (by simpa only [Prod.mk.injEq] using hD : _ ∧ _ ∧ _)
      clear hD HD
      go_wp2_with fail
      go_returns
      exact ⟨_, _, rfl, HE2.out.mono hs1, HCW2.out, HBW2.out⟩
  · obtain ⟨j, rfl⟩ : ∃ j : Nat, a = (j : Int) := ⟨a.toNat, by omega⟩
    have hj : j < C.slots.length := by omega
    have hD := HD.out
    rw [if_pos ha1] at hD
    obtain ⟨rfl, rfl, rfl⟩ := (by simpa only [Prod.mk.injEq, Int.toNat_natCast] using hD : _ ∧ _ ∧ _)
    clear hD HD
    go_upto_region 3 with (go_at_call 64; (refine HAT.out.mono ?_); (rintro e w1 ⟨rfl, hb1⟩); (have HB1 := Lib.hid hb1); (clear hb1))
    have HC1 := Lib.hid (HC.out.below HB1.out)
    obtain ⟨m0, m1, m2⟩ := HC1.out.box.three
    obtain ⟨ba, bc, e0, e1, e2, e3, e4, e5, e6, e7, -, hfr⟩ := HC1.out.cells (i := j) hj
    have f6 := hfr (j * 8 + 6)
    clear hfr
    go_wp2_with fail
    go_returns
    refine ⟨[], _, rfl, ErrIs.nil _ _ _, ?_, ?_⟩
    · exact ((HC1.out.cell (i := j) hj 6 (.bool true) { Ch.slot C j with used := true } (by decide) rfl (fun _ _ => rfl)).mono (fun k hk => .inl hk) (More.held HU.out (by have := HB1.out.size; simpa using this)))
    · exact (Beside.of_below HB1.out).same (Beside.of_grown (grownBy_set (World.grownBy.refl _ (some rg)) (j * 8 + 6) (.bool true)) hUr)
end Go.Proofs.YtflbioiildndoaaGreatDoor
