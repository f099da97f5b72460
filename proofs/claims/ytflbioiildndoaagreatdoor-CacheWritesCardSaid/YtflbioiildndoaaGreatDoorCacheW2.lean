/- merged: Cache6, Cache7, Cache8, Cache9, Cache10 -/
import Derived.Test.YtflbioiildndoaaGreatDoorCacheW1
import Derived.Test.YtflbioiildndoaaGreatDoorInts
import Derived.Test.YtflbioiildndoaaGreatDoorCacheP
/- cache: New, Disk, check, Drop, Held, Dirty -/
namespace Go.Proofs.YtflbioiildndoaaGreatDoor
open Go.RowKit
set_option linter.unusedVariables false
set_option linter.unusedSimpArgs false

theorem one_intAt (w : World) (z : Int) (t : TypeId) (n : Nat) (hn : w.heap.size = n) : IntsAt (w.alloc (.cells #[.int .i64 z] t)) (.slice (some ⟨n, 0, none⟩) 1 1) [z] := by subst hn; exact one_int w z t

/-! ### New -/
set_option maxRecDepth 100000 in
theorem cnew_ok {F : Nat → Prop} {w : World} {dp : Nat} {d : Bk.Disk} (hd : DiskAt F w dp d) (hF : Held F w) (n : Nat) (h3 : 3 ≤ n) (h64 : n ≤ 64) (N : Int) (hN : N = (n : Int)) :
    Calls Tryz.prog 29 #[.pointer (some ⟨dp, 0, none⟩), .int .i64 N] w fun e w' => (∃ c rg rc, e = .returned (.tuple #[.pointer (some ⟨c, 0, none⟩), .nilIface]) ∧ CIn (More F w w') w' c dp rg rc (Ch.new d n)) ∧ Below w.heap.size w w' := by
  subst hN
  have HD := Lib.hid hd
  have HF := Lib.hid hF
  have h3i : (3 : Int) ≤ (n : Int) := by omega
  have h64i : (n : Int) ≤ 64 := by omega
  clear hd hF
  go_enter Tryz.func29, Tryz.ntmps29
  go_upto_region 5 with fail
  go_wp2_with (at_make; refine wpList_make_row eCs eCs_ok (Ch.Slot.zero, none, 0) rfl rfl _ _ rfl n _ _ rfl rfl rfl rfl (by simp; omega) (by omega) w.heap.size rfl ?_)
  intro w1 ho hg
  have HO := Lib.hid ho
  have HG := Lib.hid hg
  clear ho hg
  go_wp2_with fail
  go_returns
  have hs1 := HG.out.size
  have hb1 := (Below.refl w.heap.size w).grown HG.out (Nat.le_refl _) (by intro k hk; cases hk)
  refine ⟨⟨_, w.heap.size, n, rfl, ?_⟩, by go_grown⟩
  obtain ⟨hlt1, hlt2⟩ := HO.out.lt w.heap.size rfl
  refine ⟨F, fun _ => False, List.replicate n (Ch.Slot.zero, none, 0), ?_, fun k hk => .inl hk, fun k hk => hk.elim, .inr ⟨hs1, by simp⟩, .inr ⟨Nat.le_refl _, by simp; omega⟩, More.held HF.out (by simp; omega)⟩
  have hl : (Ch.new d n).slots.length = n := by unfold Ch.new; simp
  refine ⟨?_, ?_, ?_, ?_, ?_, by omega, ⟨fun h => ?_, fun h => ?_⟩, ⟨id, id⟩, fun k hk => hk.elim, ?_, fun k hk => hk.elim⟩
  · rw [hl]
    exact BoxAt.new w1 [_, _, _] _
  · rw [hl]; exact (HO.out.mono (Nat.zero_le _)).alloc _
  · unfold Ch.new; simp
  · intro i x hx
    rw [List.getElem?_replicate] at hx
    split at hx
    · cases hx
      exact ⟨⟨none, 0, rfl, Nat.le_refl _, Nat.zero_le _, .inl rfl⟩, .inl rfl⟩
    · cases hx
  · exact (HD.out.below HF.out hb1).on fun k hk => Below.heap_alloc _ _ _ (Nat.lt_of_lt_of_le (HF.out k hk) hs1)
  · have := HF.out _ h; omega
  · have := HF.out _ h; omega
  · exact HF.out.more (by simp; omega)
theorem cnew_nil {S : Nat → Prop} [Has S 7] (N : Int) (w : World) (A : Nat → Addr) (hs : SentsOn S w A) :
    Calls Tryz.prog 29 #[.pointer none, .int .i64 N] w fun e w' => (∃ l v, e = .returned (.tuple #[.pointer none, v]) ∧ ErrIs w' A w.heap.size l 7 v) ∧ Below w.heap.size w w' := by
  have g2 : w.cell? ⟨0, 0, none⟩ = some (.iface 176 (.pointer (some (A 7)))) := hs.cell 7 (by decide) (by decide)
  have HE := Lib.hid (sent_err (w := w) (A := A) (B := w.heap.size) 7 (by decide) (by decide))
  clear hs
  go_enter Tryz.func29, Tryz.ntmps29
  go_wp2_with (go_at_call 41; refine (faultNew_any _ 7 _ _ A w.heap.size HE.out (by decide) (Nat.le_refl _)).mono ?_; rintro e w' ⟨⟨v, rfl, hv⟩, hb⟩)
  go_returns
  exact ⟨⟨_, _, rfl, hv⟩, hb⟩
theorem cnew_bad {S : Nat → Prop} [Has S 2] (dp : Nat) (N : Int) (hN : N < 3 ∨ 64 < N) (w : World) (A : Nat → Addr) (hs : SentsOn S w A) :
    Calls Tryz.prog 29 #[.pointer (some ⟨dp, 0, none⟩), .int .i64 N] w fun e w' => (∃ l v, e = .returned (.tuple #[.pointer none, v]) ∧ ErrIs w' A w.heap.size l 2 v) ∧ Below w.heap.size w w' := by
  have g2 : w.cell? ⟨1, 0, none⟩ = some (.iface 176 (.pointer (some (A 2)))) := hs.cell 2 (by decide) (by decide)
  have HE := Lib.hid (sent_err (w := w) (A := A) (B := w.heap.size) 2 (by decide) (by decide))
  clear hs
  by_cases h1 : N < 3
  · clear hN
    go_enter Tryz.func29, Tryz.ntmps29
    go_wp2_with (go_at_call 41; refine (faultNew_any _ 2 _ _ A w.heap.size HE.out (by decide) (Nat.le_refl _)).mono ?_; rintro e w' ⟨⟨v, rfl, hv⟩, hb⟩)
    go_returns
    exact ⟨⟨_, _, rfl, hv⟩, hb⟩
  · have h2 : 3 ≤ N := by omega
    have h3 : 64 < N := by omega
    clear hN h1
    go_enter Tryz.func29, Tryz.ntmps29
    go_wp2_with (go_at_call 41; refine (faultNew_any _ 2 _ _ A w.heap.size HE.out (by decide) (Nat.le_refl _)).mono ?_; rintro e w' ⟨⟨v, rfl, hv⟩, hb⟩)
    go_returns
    exact ⟨⟨_, _, rfl, hv⟩, hb⟩

/-! ### check -/
theorem Tryz.geoF0 (a b : Value) (w : World) : (Instr.field 29 (.agg #[a, b]) 0).run Tryz.prog w = .ok a w := by kernel_rfl
theorem CIn.disk {U : Nat → Prop} {w : World} {c dp rg rc : Nat} {C : Ch.Cache} (h : CIn U w c dp rg rc C) : ∃ F, DiskAt F w dp C.disk ∧ (∀ k, F k → U k) ∧ Held F w := by
  obtain ⟨F, M, xs, h1, h2, h3, h4, h5, h6⟩ := h
  exact ⟨F, h1.disk, h2, h1.heldF⟩
set_option maxRecDepth 100000 in
theorem ccheck_in {U : Nat → Prop} {w : World} {c dp rg rc : Nat} {C : Ch.Cache} (h : CIn U w c dp rg rc C) (op : ByteArray) (id : Int) (hid : Bk.In C.disk id) :
    Calls Tryz.prog 54 #[.pointer (some ⟨c, 0, none⟩), .string op, .int .i64 id] w fun e w' => e = .returned .nilIface ∧ Below w.heap.size w w' := by
  obtain ⟨F, hd, -, -⟩ := h.disk
  obtain ⟨m0, -, -⟩ := h.box.three
  obtain ⟨h1, h2⟩ := hid
  have HD := Lib.hid hd
  clear h hd
  go_enter Tryz.func54, Tryz.ntmps54
  go_wp2_with (go_at_call 63; (refine (geo_is HD.out).mono ?_); (rintro e w1 ⟨rfl, hb⟩))
  rw [Tryz.geoF0]
  go_simp
  go_wp2_with fail
  go_ret
  exact ⟨rfl, hb⟩
set_option maxRecDepth 100000 in
theorem ccheck_out {S : Nat → Prop} [Has S 2] {U : Nat → Prop} {w : World} {c dp rg rc : Nat} {C : Ch.Cache} (h : CIn U w c dp rg rc C) (op : ByteArray) (id : Int) (hid : ¬ Bk.In C.disk id) (A : Nat → Addr) (hs : SentsOn S w A) :
    Calls Tryz.prog 54 #[.pointer (some ⟨c, 0, none⟩), .string op, .int .i64 id] w fun e w' => (∃ l v, e = .returned v ∧ ErrIs w' A w.heap.size l 2 v) ∧ Below w.heap.size w w' := by
  obtain ⟨F, hd, -, -⟩ := h.disk
  obtain ⟨m0, -, -⟩ := h.box.three
  have HD := Lib.hid hd
  have HS := Lib.hid hs
  have HE := Lib.hid (fun w1 : World => sent_err (w := w1) (A := A) (B := w.heap.size) 2 (by decide) (by decide))
  unfold Bk.In at hid
  by_cases hi : id < 0
  · have g2 : w.cell? ⟨1, 0, none⟩ = some (.iface 176 (.pointer (some (A 2)))) := hs.cell 2 (by decide) (by decide)
    clear h hd hs hid
    go_enter Tryz.func54, Tryz.ntmps54
    go_wp2_with (go_at_call 47; (refine (faultAt_any _ _ [] 2 _ _ A w.heap.size (HE.out _) (by decide) (Nat.le_refl _)).mono ?_); (rintro e w' ⟨⟨v, rfl, hv⟩, hb⟩))
    go_ret
    exact ⟨⟨_, _, rfl, hv⟩, hb⟩
  · have h2 : 0 ≤ id := by omega
    have h3 : (C.disk.blocks : Int) ≤ id := by omega
    clear h hd hs hid hi
    go_enter Tryz.func54, Tryz.ntmps54
    go_wp2_with (first
      | (go_at_call 63; (refine (geo_is HD.out).mono ?_); (rintro e w1 ⟨rfl, hb⟩); (have g2 : w1.cell? ⟨1, 0, none⟩ = some (.iface 176 (.pointer (some (A 2)))) := (HS.out.below hb).cell 2 (by decide) (by decide)); (have HB := Lib.hid hb); (clear hb))
      | (go_at_call 47; (refine (faultAt_any _ _ [] 2 _ _ A w.heap.size (HE.out _) (by decide) HB.out.size).mono ?_); (rintro e w' ⟨⟨v, rfl, hv⟩, hb⟩)))
    rw [Tryz.geoF0]
    go_simp
    go_wp2_with (go_at_call 47; (refine (faultAt_any _ _ [] 2 _ _ A w.heap.size (HE.out _) (by decide) HB.out.size).mono ?_); (rintro e w' ⟨⟨v, rfl, hv⟩, hb⟩))
    go_ret
    exact ⟨⟨_, _, rfl, hv⟩, below_step HB.out hb⟩
theorem ccheck_nil {S : Nat → Prop} [Has S 7] (op : ByteArray) (id : Int) (w : World) (A : Nat → Addr) (hs : SentsOn S w A) :
    Calls Tryz.prog 54 #[.pointer none, .string op, .int .i64 id] w fun e w' => (∃ l v, e = .returned v ∧ ErrIs w' A w.heap.size l 7 v) ∧ Below w.heap.size w w' := by
  have g2 : w.cell? ⟨0, 0, none⟩ = some (.iface 176 (.pointer (some (A 7)))) := hs.cell 7 (by decide) (by decide)
  have HE := Lib.hid (sent_err (w := w) (A := A) (B := w.heap.size) 7 (by decide) (by decide))
  clear hs
  go_enter Tryz.func54, Tryz.ntmps54
  go_wp2_with (go_at_call 41; refine (faultNew_any _ 7 _ _ A w.heap.size HE.out (by decide) (Nat.le_refl _)).mono ?_; rintro e w' ⟨⟨v, rfl, hv⟩, hb⟩)
  go_ret
  exact ⟨⟨_, _, rfl, hv⟩, hb⟩

/-! ### Disk, Dirty, Held -/
theorem cdisk_is {w : World} {c dp : Nat} {v1 v2 : Value} (h : BoxAt w c [.pointer (some ⟨dp, 0, none⟩), v1, v2]) :
    Calls Tryz.prog 9 #[.pointer (some ⟨c, 0, none⟩)] w fun e w' => e = .returned (.pointer (some ⟨dp, 0, none⟩)) ∧ w = w' := by
  obtain ⟨m0, -, -⟩ := h.three
  clear h
  go_enter Tryz.func9, Tryz.ntmps9
  go_wp2_with fail
  go_ret
  exact ⟨rfl, rfl⟩
theorem cdisk_nil (w : World) :
    Calls Tryz.prog 9 #[.pointer none] w fun e w' => e = .returned (.pointer none) ∧ w = w' := by
  go_enter Tryz.func9, Tryz.ntmps9
  go_wp2_with fail
  go_ret
  exact ⟨rfl, rfl⟩
/-- how many of the first k slots must be written; which pages they hold -/
def Ch.dirtyK (C : Ch.Cache) (k : Nat) : Nat := ((C.slots.take k).filter (·.dirty)).length
def Ch.heldK (C : Ch.Cache) (k : Nat) : List Int := ((C.slots.take k).filter (·.full)).map (·.page.id)
theorem Ch.take_slot (C : Ch.Cache) {k : Nat} (h : k < C.slots.length) : C.slots.take (k + 1) = C.slots.take k ++ [Ch.slot C k] := by
  rw [List.take_add_one, Ch.slot_at h]; rfl
theorem Ch.dirtyK_step (C : Ch.Cache) {k : Nat} (h : k < C.slots.length) : Ch.dirtyK C (k + 1) = Ch.dirtyK C k + if (Ch.slot C k).dirty = true then 1 else 0 := by
  unfold Ch.dirtyK
  rw [Ch.take_slot C h, List.filter_append, List.length_append]
  congr 1
  rw [List.filter_cons]
  split <;> rfl
theorem Ch.heldK_step (C : Ch.Cache) {k : Nat} (h : k < C.slots.length) : Ch.heldK C (k + 1) = Ch.heldK C k ++ if (Ch.slot C k).full = true then [(Ch.slot C k).page.id] else [] := by
  unfold Ch.heldK
  rw [Ch.take_slot C h, List.filter_append, List.map_append]
  congr 1
  rw [List.filter_cons]
  split <;> rfl
theorem Ch.dirtyK_le (C : Ch.Cache) (k : Nat) : Ch.dirtyK C k ≤ k := by
  unfold Ch.dirtyK
  exact Nat.le_trans (List.length_filter_le _ _) (by rw [List.length_take]; omega)
theorem Ch.heldK_le (C : Ch.Cache) (k : Nat) : (Ch.heldK C k).length ≤ k := by
  unfold Ch.heldK
  rw [List.length_map]
  exact Nat.le_trans (List.length_filter_le _ _) (by rw [List.length_take]; omega)

set_option maxRecDepth 100000 in
set_option maxHeartbeats 2000000 in
theorem cdirty_is {U : Nat → Prop} {w : World} {c dp rg rc : Nat} {C : Ch.Cache} (h : CIn U w c dp rg rc C) (hl : C.slots.length ≤ 64) (n : Nat) (hn : Ch.dirty C = n) :
    Calls Tryz.prog 22 #[.pointer (some ⟨c, 0, none⟩)] w fun e w' => e = .returned (.int .i64 (n : Int)) ∧ Below w.heap.size w w' := by
  obtain ⟨m0, m1, m2⟩ := h.box.three
  obtain ⟨N, hN⟩ : ∃ N, C.slots.length = N := ⟨_, rfl⟩
  have hend : Ch.dirtyK C N = n := by rw [← hn, ← hN]; unfold Ch.dirtyK; rw [List.take_length]; rfl
  rw [hN] at m1 hl
  have H := Lib.hid h
  have HN := Lib.hid hN
  have HEND := Lib.hid hend
  clear h hN hend hn
  go_enter Tryz.func22, Tryz.ntmps22
  go_wp2_with fail
  go_loopw [3, 13] (fun v i wr => ∃ k : Nat, k ≤ N ∧ i = .int .i64 k ∧ v = .int .i64 (Ch.dirtyK C k : Int) ∧ Below w.heap.size w wr) (fun _ i _ => N - (intOf i).toNat)
  case atStart => exact ⟨0, by omega, rfl, rfl, Below.refl _ _⟩
  case round =>
    obtain ⟨k, hk, rfl, rfl, hbr⟩ := hrel
    have HBR := Lib.hid hbr
    have hdk := Ch.dirtyK_le C k
    obtain ⟨q, hq⟩ : ∃ q, Ch.dirtyK C k = q := ⟨_, rfl⟩
    rw [hq] at hdk ⊢
    have HQ := Lib.hid hq
    clear hbr m0 m1 m2 hq
    by_cases hlt : k < N
    · obtain ⟨ba, bc, e0, e1, e2, e3, e4, e5, e6, e7, -, -⟩ := (H.out.below HBR.out).cells (i := k) (by rw [HN.out]; exact hlt)
      have HST := Lib.hid (Ch.dirtyK_step C (k := k) (by rw [HN.out]; exact hlt))
      have hlt1 : (k : Int) < (N : Int) := by omega
      have hw : IntKind.i64.wrap ((q : Int) + 1) = (q : Int) + 1 := IntWalk.i64_in _ (by omega)
      generalize Ch.slot C k = x at *
      obtain ⟨page, full, dirty, used, pins⟩ := x
      simp only at e0 e1 e2 e3 e4 e5 e6 e7
      cases dirty with
      | false =>
        go_wp2_with fail
        go_roundw
        case rel => exact ⟨k + 1, by omega, by go_num, by rw [HST.out, HQ.out]; rfl, HBR.out.alloc HBR.out.size _⟩
        case measure => simp [intOf]; omega
      | true =>
        go_wp2_with fail
        go_roundw
        case rel => exact ⟨k + 1, by omega, by go_num, by rw [HST.out, HQ.out]; simp, HBR.out.alloc HBR.out.size _⟩
        case measure => simp [intOf]; omega
    · obtain rfl : k = N := by omega
      go_wp2_with fail
      go_ret
      obtain rfl : n = q := HEND.out.symm.trans HQ.out
      exact ⟨rfl, HBR.out⟩

set_option maxRecDepth 100000 in
set_option maxHeartbeats 2000000 in
theorem cheld_is {U : Nat → Prop} {w : World} {c dp rg rc : Nat} {C : Ch.Cache} (h : CIn U w c dp rg rc C) (hl : C.slots.length ≤ 64) (L : List Int) (hL : Ch.held C = L) :
    Calls Tryz.prog 20 #[.pointer (some ⟨c, 0, none⟩)] w fun e w' => (∃ a cc, e = .returned (.slice a L.length cc) ∧ OwnI w' w.heap.size (.slice a L.length cc) L) ∧ Below w.heap.size w w' := by
  obtain ⟨m0, m1, m2⟩ := h.box.three
  obtain ⟨N, hN⟩ : ∃ N, C.slots.length = N := ⟨_, rfl⟩
  have hend : Ch.heldK C N = L := by rw [← hL, ← hN]; unfold Ch.heldK; rw [List.take_length]; rfl
  rw [hN] at m1 hl
  have H := Lib.hid h
  have HN := Lib.hid hN
  have HEND := Lib.hid hend
  clear h hN hend hL
  go_enter Tryz.func20, Tryz.ntmps20
  go_wp2_with fail
  go_loopw [3, 13] (fun v i wr => ∃ k : Nat, k ≤ N ∧ i = .int .i64 k ∧ OwnI wr w.heap.size v (Ch.heldK C k) ∧ Below w.heap.size w wr) (fun _ i _ => N - (intOf i).toNat)
  case atStart => exact ⟨0, by omega, rfl, OwnI.nil _ _, Below.refl _ _⟩
  case round =>
    obtain ⟨k, hk, rfl, ho, hbr⟩ := hrel
    have HO := Lib.hid ho
    have HBR := Lib.hid hbr
    have hdk := Ch.heldK_le C k
    clear hbr m0 m1 m2 ho
    by_cases hlt : k < N
    · obtain ⟨ba, bc, e0, e1, e2, e3, e4, e5, e6, e7, -, -⟩ := (H.out.below HBR.out).cells (i := k) (by rw [HN.out]; exact hlt)
      have HST := Lib.hid (Ch.heldK_step C (k := k) (by rw [HN.out]; exact hlt))
      have hlt1 : (k : Int) < (N : Int) := by omega
      generalize Ch.slot C k = x at *
      obtain ⟨page, full, dirty, used, pins⟩ := x
      simp only at e0 e1 e2 e3 e4 e5 e6 e7
      cases full with
      | false =>
        go_wp2_with fail
        go_roundw
        case rel => exact ⟨k + 1, by omega, by go_num, by rw [HST.out]; simpa using HO.out.alloc _, HBR.out.alloc HBR.out.size _⟩
        case measure => simp [intOf]; omega
      | true =>
        have hll : (Ch.heldK C k).length + [page.id].length ≤ 17592186044416 := by simp; omega
        have hbs := HBR.out.size
        obtain ⟨M, hM⟩ : ∃ M, Ch.heldK C k = M := ⟨_, rfl⟩
        rw [hM] at HO hll HST
        clear hM hdk
        go_upto_region 7 with fail
        go_wp2_with (go_loud (at_builtin; refine wpList_append_ints rfl (.tmp 19) (.tmp 23) rfl w.heap.size _ M rfl ((HO.out.alloc _).alloc _) _ [page.id] rfl (one_intAt _ _ _ _ (by simp)) hll (by simp; omega) ?_))
        intro v2 w2 hown hgrow hnn
        have HOW := Lib.hid hown
        have HB2 := Lib.hid (((HBR.out.alloc hbs _).alloc (by simp; omega) _).grown hgrow (by simp; omega) (fun j hj => (HO.out.lt j hj).1))
        clear hown hgrow hnn
        go_wp2_with fail
        go_roundw
        case rel => exact ⟨k + 1, by omega, by go_num, by rw [HST.out]; exact HOW.out, HB2.out⟩
        case measure => simp [intOf]; omega
    · obtain rfl : k = N := by omega
      have HO2 := Lib.hid (show OwnI _ _ _ L from HEND.out ▸ HO.out)
      obtain ⟨a, cc, rfl, -, -⟩ := HO2.out.slice
      go_wp2_with fail
      go_ret
      exact ⟨⟨_, _, rfl, HO2.out⟩, HBR.out⟩
theorem cheld_nil (w : World) :
    Calls Tryz.prog 20 #[.pointer none] w fun e w' => e = .returned (.slice none 0 0) ∧ w = w' := by
  go_enter Tryz.func20, Tryz.ntmps20
  go_wp2_with fail
  go_ret
  exact ⟨rfl, rfl⟩
theorem cdirty_nil (w : World) :
    Calls Tryz.prog 22 #[.pointer none] w fun e w' => e = .returned (.int .i64 0) ∧ w = w' := by
  go_enter Tryz.func22, Tryz.ntmps22
  go_wp2_with fail
  go_ret
  exact ⟨rfl, rfl⟩
end Go.Proofs.YtflbioiildndoaaGreatDoor

/- cache: Get, Pin -/
namespace Go.Proofs.YtflbioiildndoaaGreatDoor
open Go.RowKit
set_option linter.unusedVariables false
set_option linter.unusedSimpArgs false

theorem CIn.keep {U : Nat → Prop} {w w' : World} {c dp rg rc r : Nat} {C : Ch.Cache} (h : CIn U w c dp rg rc C) (hg : w.grownBy w' (some r)) (hr : ¬ U r) : CIn U w' c dp rg rc C := by
  obtain ⟨F, M, xs, h1, h2, h3, h4, h5, h6⟩ := h
  have hne : ∀ k, k < w.heap.size → U k → w'.heap[k]? = w.heap[k]? := fun k hk hu => hg.block k hk (by intro e; cases e; exact hr hu)
  exact ⟨F, M, xs, h1.on (hne c h1.lt.1 h4) (hne rg h1.lt.2 h5) (fun k hk => hne k (h1.heldF k hk) (h2 k hk)) (fun k hk => hne k (h1.heldM k hk) (h3 k hk)) hg.size, h2, h3, h4, h5, h6.more hg.size⟩
theorem grown4 (w : World) (r : Nat) (v0 v1 v2 v3 : Value) : w.grownBy ((((w.setCell ⟨r, 0, none⟩ v0).setCell ⟨r, 1, none⟩ v1).setCell ⟨r, 2, none⟩ v2).setCell ⟨r, 3, none⟩ v3) (some r) :=
  grownBy_set (grownBy_set (grownBy_set (grownBy_set (World.grownBy.refl _ _) 0 v0) 1 v1) 2 v2) 3 v3
theorem Beside.low {U : Nat → Prop} {w w1 w2 : World} (h : Beside U w w1) (hb : Below w.heap.size w1 w2) : Beside U w w2 :=
  ⟨hb.os.trans h.os, hb.tape.trans h.tape, hb.output.trans h.output, Nat.le_trans h.size hb.size, fun k hk hu => (hb.block k hk).trans (h.block k hk hu)⟩
/-- what Get leaves -/
def CGot (U : Nat → Prop) (w : World) (A : Nat → Addr) (c dp rg rc : Nat) (C : Ch.Cache) (pg : Pg.Page) (k : Nat) (e : Ending) (w' : World) : Prop :=
  ∃ l v a cc, e = .returned (.tuple #[.agg #[.int .i64 pg.kind, .int .i64 pg.id, .int .u64 (pg.gen : Int), .slice a pg.body.length cc], v]) ∧ ErrIs w' A w.heap.size l k v ∧ Own w' w.heap.size (.slice a pg.body.length cc) pg.body ∧ CIn (More U w w') w' c dp rg rc C ∧ Beside U w w'

/-- Get's and Pin's ends -/
theorem Ch.get_in {C D : Ch.Cache} {id : Int} {pg : Pg.Page} {k : Nat} (hid : Bk.In C.disk id) (hD : Ch.get C id = (D, pg, k)) : (∃ i, Ch.load C id = (D, i, 0) ∧ pg = (Ch.slot D i).page ∧ k = 0) ∨ (∃ i, Ch.load C id = (D, i, k) ∧ pg = Pg.zero ∧ k ≠ 0) := by
  obtain ⟨D1, i1, k1, hl⟩ : ∃ D1 i1 k1, Ch.load C id = (D1, i1, k1) := ⟨_, _, _, rfl⟩
  unfold Ch.get at hD
  rw [if_pos hid, hl] at hD
  simp only at hD
  by_cases h0 : k1 = 0
  · rw [if_pos h0] at hD
    obtain ⟨rfl, rfl, rfl⟩ := (by simpa only [Prod.mk.injEq] using hD : _ ∧ _ ∧ _)
    exact .inl ⟨i1, by rw [hl, h0], rfl, rfl⟩
  · rw [if_neg h0] at hD
    obtain ⟨rfl, rfl, rfl⟩ := (by simpa only [Prod.mk.injEq] using hD : _ ∧ _ ∧ _)
    exact .inr ⟨i1, hl, rfl, h0⟩
set_option maxRecDepth 100000 in
set_option maxHeartbeats 2000000 in
theorem cget_is {S : Nat → Prop} [Has S 1] [Has S 2] [Has S 3] [Has S 5] [Has S 7] {U : Nat → Prop} {w : World} {c dp rg rc n : Nat} {C D : Ch.Cache} {pg : Pg.Page} {k : Nat} (h : CIn U w c dp rg rc C) (ho : Ch.Ok n C) (hn : n ≤ 1000000) (id : Int) (hD : Ch.get C id = (D, pg, k)) (A : Nat → Addr) (hsU : ∀ w1, Beside U w w1 → SentsOn S w1 A) :
    Calls Tryz.prog 34 #[.pointer (some ⟨c, 0, none⟩), .int .i64 id] w (CGot U w A c dp rg rc D pg k) := by
  have hU : Held U w := h.held
  have HC := Lib.hid h
  have HO := Lib.hid ho
  have HS := Lib.hid hsU
  have HU := Lib.hid hU
  by_cases hid : Bk.In C.disk id
  · have HID := Lib.hid hid
    have HD := Lib.hid (Ch.get_in hid hD)
    clear h ho hsU hU hD hid
    go_enter Tryz.func34, Tryz.ntmps34
    go_upto_region 1 with fail
    obtain ⟨nb, hnb⟩ : ∃ nb, w.heap.size = nb := ⟨_, rfl⟩
    refine wp_name fun W hW => ?_
    have HX := Lib.hid (show BoxAt W nb [.int .i64 0, .int .i64 0, .int .u64 0, .slice none 0 0] by rw [hW]; exact BoxAt.newAt _ _ hnb [_, _, _, _] _)
    have hbW : Below w.heap.size w W := by rw [hW]; exact (Below.refl _ _).alloc (Nat.le_refl _) _
    have HBW := Lib.hid hbW
    have HNB := Lib.hid hnb
    have HCW := Lib.hid (HC.out.below hbW)
    have hsW : nb < W.heap.size := HX.out.lt
    clear hW hbW
    rw [hnb]
    clear hnb
    rcases HD.out with ⟨i, hl, hpg, hk⟩ | ⟨i, hl, hpg, hk⟩
    · subst hk
      have HL := Lib.hid hl
      have HPG := Lib.hid hpg
      clear hl hpg HD
      go_upto_region 7 with (first
        | (go_at_call 55; (refine (cload_is (HCW.out.below HB1.out) HO.out hn id HID.out HL.out A (fun wx hx => HS.out wx ((Beside.of_below (below_step HBW.out HB1.out)).same hx))).mono ?_); (rintro e w2 ⟨l2, v2, rfl, hE2, hC2, hB2⟩); (obtain ⟨rfl, rfl⟩ := hE2.isNil); (have HC2 := Lib.hid hC2); (have HB2 := Lib.hid hB2); (clear hE2 hC2 hB2))
        | (go_at_call 54; (refine (ccheck_in HCW.out _ id HID.out).mono ?_); (rintro e w1 ⟨rfl, hb1⟩); (have HB1 := Lib.hid hb1); (clear hb1)))
      obtain ⟨hok, hi, hlen, -, -⟩ := HO.out.load HID.out HL.out
      obtain ⟨m0, m1, m2⟩ := HC2.out.box.three
      obtain ⟨ba, bc, e0, e1, e2, e3, e4, e5, e6, e7, hbs, -⟩ := HC2.out.cells (i := i) hi
      rw [← HPG.out] at e0 e1 e2 e3 hbs
      have hpl : pg.body.length ≤ 100000 := by rw [HPG.out]; exact (hok.slot hi).2.1
      have hi1 : (i : Int) < (D.slots.length : Int) := by omega
      have hs1 : W.heap.size ≤ w1.heap.size := HB1.out.size
      have hs2 : w1.heap.size ≤ w2.heap.size := HB2.out.size
      have hUnb : ¬ U nb := fun hu => by have := HU.out nb hu; have := HNB.out; omega
      have HX2 := Lib.hid ((HX.out.below HB1.out).beside HB2.out hUnb)
      have HBS := Lib.hid hbs
      clear hbs e4 e5 e6 e7 hok hlen
      go_wp2_with (go_at_call 56; (refine (clonedP_is pg ba bc w2 HBS.out hpl).mono ?_); (rintro e w3 ⟨⟨g3, rfl, ho3⟩, hb3⟩); (have HO3 := Lib.hid ho3); (have HB3 := Lib.hid hb3); (have HX3 := Lib.hid (HX2.out.below hb3)); (clear ho3 hb3 e0 e1 e2 e3 m0 m1 m2); (obtain ⟨x0, x1, x2, x3⟩ := HX3.out.four); (obtain ⟨y0, y1, y2, y3⟩ := HX3.out.four_free))
      refine bodyPost_ret (v := .tuple #[.agg #[.int .i64 pg.kind, .int .i64 pg.id, .int .u64 (pg.gen : Int), .slice (some ⟨g3, 0, none⟩) pg.body.length pg.body.length], .nilIface]) (by simp [results, Tryz.results34, go_sem, x0, x1, x2, x3]) rfl ?_
      have hs3 : w2.heap.size ≤ w3.heap.size := HB3.out.size
      have hwn := HNB.out
      refine ⟨[], _, _, _, rfl, ErrIs.nil _ _ _, ?_, ?_, ?_⟩
      · exact (((((HO3.out).setLow _ (by omega)).setLow _ (by omega)).setLow _ (by omega)).setLow _ (by omega)).mono (by omega)
      · refine CIn.fit (wr := w3) ((((HC2.out.below HB3.out).keep (grown4 w3 nb _ _ _ _) ?_)).mono (fun k hk => hk.imp (fun h => h) fun h => ⟨by omega, by omega⟩) ?_) HU.out (by omega) (by simp)
        · rintro (hu | hu)
          · exact hUnb hu
          · omega
        · exact More.held (HU.out) (by omega) |>.more (by simp)
      · exact (((Beside.of_below (below_step HBW.out HB1.out)).same HB2.out).same (Beside.of_below HB3.out)).low (by go_grown)
    · have HL := Lib.hid hl
      clear hl HD
      subst hpg
      go_upto_region 6 with (first
        | (go_at_call 55; (refine (cload_is (HCW.out.below HB1.out) HO.out hn id HID.out HL.out A (fun wx hx => HS.out wx ((Beside.of_below (below_step HBW.out HB1.out)).same hx))).mono ?_); (rintro e w2 ⟨l2, v2, rfl, hE2, hC2, hB2⟩); (obtain ⟨t2, x2, rfl⟩ := hE2.iface hk); (have HE2 := Lib.hid hE2); (have HC2 := Lib.hid hC2); (have HB2 := Lib.hid hB2); (clear hE2 hC2 hB2))
        | (go_at_call 54; (refine (ccheck_in HCW.out _ id HID.out).mono ?_); (rintro e w1 ⟨rfl, hb1⟩); (have HB1 := Lib.hid hb1); (clear hb1)))
      have hs1 : W.heap.size ≤ w1.heap.size := HB1.out.size
      have hs2 : w1.heap.size ≤ w2.heap.size := HB2.out.size
      have hUnb : ¬ U nb := fun hu => by have := HU.out nb hu; have := HNB.out; omega
      have HX2 := Lib.hid ((HX.out.below HB1.out).beside HB2.out hUnb)
      go_wp2_with (go_at_call 43; (refine (faultWrap_any _ _ k _ _ A w1.heap.size HE2.out hk (by omega)).mono ?_); (rintro e w3 ⟨⟨v3, rfl, hE3⟩, hb3⟩); (have HE3 := Lib.hid hE3); (have HB3 := Lib.hid hb3); (have HX3 := Lib.hid (HX2.out.below hb3)); (clear hE3 hb3); (obtain ⟨x0, x1, x2, x3⟩ := HX3.out.four); (obtain ⟨y0, y1, y2, y3⟩ := HX3.out.four_free))
      refine bodyPost_ret (v := .tuple #[.agg #[.int .i64 0, .int .i64 0, .int .u64 0, .slice none 0 0], v3]) (by simp [results, Tryz.results34, go_sem, x0, x1, x2, x3]) rfl ?_
      have hs3 : w2.heap.size ≤ w3.heap.size := HB3.out.size
      have hwn := HNB.out
      refine ⟨_, _, none, 0, rfl, ((((HE3.out.setLow _ (by omega)).setLow _ (by omega)).setLow _ (by omega)).setLow _ (by omega)).mono (by omega), Own.nil _ _, ?_, ?_⟩
      · refine CIn.fit (wr := w3) ((((HC2.out.below HB3.out).keep (grown4 w3 nb _ _ _ _) ?_)).mono (fun k hk => hk.imp (fun h => h) fun h => ⟨by omega, by omega⟩) ?_) HU.out (by omega) (by simp)
        · rintro (hu | hu)
          · exact hUnb hu
          · omega
        · exact More.held (HU.out) (by omega) |>.more (by simp)
      · exact (((Beside.of_below (below_step HBW.out HB1.out)).same HB2.out).same (Beside.of_below HB3.out)).low (by go_grown)
  · have HID := Lib.hid hid
    have hD' := hD
    unfold Ch.get at hD'
    rw [if_neg hid] at hD'
    obtain ⟨rfl, rfl, rfl⟩ := (by simpa only [Prod.mk.injEq] using hD' : _ ∧ _ ∧ _)
    clear h ho hsU hU hD hid hD'
    go_enter Tryz.func34, Tryz.ntmps34
    go_upto_region 1 with fail
    obtain ⟨nb, hnb⟩ : ∃ nb, w.heap.size = nb := ⟨_, rfl⟩
    refine wp_name fun W hW => ?_
    have HX := Lib.hid (show BoxAt W nb [.int .i64 0, .int .i64 0, .int .u64 0, .slice none 0 0] by rw [hW]; exact BoxAt.newAt _ _ hnb [_, _, _, _] _)
    have hbW : Below w.heap.size w W := by rw [hW]; exact (Below.refl _ _).alloc (Nat.le_refl _) _
    have HBW := Lib.hid hbW
    have HNB := Lib.hid hnb
    have HCW := Lib.hid (HC.out.below hbW)
    have hsW : nb < W.heap.size := HX.out.lt
    clear hW hbW
    rw [hnb]
    clear hnb
    go_upto_region 3 with (go_at_call 54; (refine (ccheck_out HCW.out _ id HID.out A (HS.out _ (Beside.of_below HBW.out))).mono ?_); (rintro e w3 ⟨⟨l3, v3, rfl, hE3⟩, hb3⟩); (obtain ⟨t3, z3, rfl⟩ := hE3.iface (by decide)); (have HE3 := Lib.hid hE3); (have HB3 := Lib.hid hb3); (clear hE3 hb3))
    have HX3 := Lib.hid (HX.out.below HB3.out)
    obtain ⟨x0, x1, x2, x3⟩ := HX3.out.four
    obtain ⟨y0, y1, y2, y3⟩ := HX3.out.four_free
    go_wp2_with fail
    refine bodyPost_ret (v := .tuple #[.agg #[.int .i64 0, .int .i64 0, .int .u64 0, .slice none 0 0], .iface t3 z3]) (by simp [results, Tryz.results34, go_sem, x0, x1, x2, x3]) rfl ?_
    have hs3 : W.heap.size ≤ w3.heap.size := HB3.out.size
    have hwn := HNB.out
    refine ⟨_, _, none, 0, rfl, ((((HE3.out.setLow _ (by omega)).setLow _ (by omega)).setLow _ (by omega)).setLow _ (by omega)).mono (by omega), Own.nil _ _, ?_, ?_⟩
    · exact (((HCW.out.below HB3.out).keep (grown4 w3 nb _ _ _ _) (fun hu => by have := HU.out nb hu; omega)).mono (fun k hk => .inl hk) (More.held HU.out (by simp; omega)))
    · exact (Beside.of_below (below_step HBW.out HB3.out)).low (by go_grown)
end Go.Proofs.YtflbioiildndoaaGreatDoor

/- cache: Pin, Unpin, Flush, Forget, Drop -/
namespace Go.Proofs.YtflbioiildndoaaGreatDoor
open Go.RowKit
set_option linter.unusedVariables false
set_option linter.unusedSimpArgs false

theorem Ch.pin_in {C D : Ch.Cache} {id : Int} {k : Nat} (hid : Bk.In C.disk id) (hD : Ch.pin C id = (D, k)) : (∃ D1 i, Ch.load C id = (D1, i, 0) ∧ D = Ch.set D1 i { Ch.slot D1 i with pins := IntKind.i64.wrap ((Ch.slot D1 i).pins + 1) } ∧ k = 0) ∨ (∃ i, Ch.load C id = (D, i, k) ∧ k ≠ 0) := by
  obtain ⟨D1, i1, k1, hl⟩ : ∃ D1 i1 k1, Ch.load C id = (D1, i1, k1) := ⟨_, _, _, rfl⟩
  unfold Ch.pin at hD
  rw [if_pos hid, hl] at hD
  simp only at hD
  by_cases h0 : k1 = 0
  · rw [if_pos h0] at hD
    obtain ⟨rfl, rfl⟩ := (by simpa only [Prod.mk.injEq] using hD : _ ∧ _)
    exact .inl ⟨D1, i1, by rw [hl, h0], rfl, rfl⟩
  · rw [if_neg h0] at hD
    obtain ⟨rfl, rfl⟩ := (by simpa only [Prod.mk.injEq] using hD : _ ∧ _)
    exact .inr ⟨i1, hl, h0⟩

set_option maxRecDepth 100000 in
set_option maxHeartbeats 2000000 in
theorem cpin_is {S : Nat → Prop} [Has S 1] [Has S 2] [Has S 3] [Has S 5] [Has S 7] {U : Nat → Prop} {w : World} {c dp rg rc n : Nat} {C D : Ch.Cache} {k : Nat} (h : CIn U w c dp rg rc C) (ho : Ch.Ok n C) (hn : n ≤ 1000000) (id : Int) (hD : Ch.pin C id = (D, k)) (A : Nat → Addr) (hsU : ∀ w1, Beside U w w1 → SentsOn S w1 A) :
    Calls Tryz.prog 67 #[.pointer (some ⟨c, 0, none⟩), .int .i64 id] w (CAct U w A c dp rg rc D k) := by
  have hU : Held U w := h.held
  have hUr : U rg := h.own.2
  have HC := Lib.hid h
  have HO := Lib.hid ho
  have HS := Lib.hid hsU
  have HU := Lib.hid hU
  by_cases hid : Bk.In C.disk id
  · have HID := Lib.hid hid
    have HD := Lib.hid (Ch.pin_in hid hD)
    clear h ho hsU hU hD hid
    go_enter Tryz.func67, Tryz.ntmps67
    rcases HD.out with ⟨D1, i, hl, hDD, hk⟩ | ⟨i, hl, hk⟩
    · subst hk
      have HL := Lib.hid hl
      have HDD := Lib.hid hDD
      clear hl hDD HD
      go_upto_region 7 with (first
        | (go_at_call 55; (refine (cload_is (HC.out.below HB1.out) HO.out hn id HID.out HL.out A (fun wx hx => HS.out wx ((Beside.of_below HB1.out).same hx))).mono ?_); (rintro e w2 ⟨l2, v2, rfl, hE2, hC2, hB2⟩); (obtain ⟨rfl, rfl⟩ := hE2.isNil); (have HC2 := Lib.hid hC2); (have HB2 := Lib.hid hB2); (clear hE2 hC2 hB2))
        | (go_at_call 54; (refine (ccheck_in HC.out _ id HID.out).mono ?_); (rintro e w1 ⟨rfl, hb1⟩); (have HB1 := Lib.hid hb1); (clear hb1)))
      obtain ⟨hok, hi, hlen, -, -⟩ := HO.out.load HID.out HL.out
      obtain ⟨m0, m1, m2⟩ := HC2.out.box.three
      obtain ⟨ba, bc, e0, e1, e2, e3, e4, e5, e6, e7, hbs, hfr⟩ := HC2.out.cells (i := i) hi
      have f7 := hfr (i * 8 + 7)
      have hi1 : (i : Int) < (D1.slots.length : Int) := by omega
      have hs1 : w.heap.size ≤ w1.heap.size := HB1.out.size
      have hs2 : w1.heap.size ≤ w2.heap.size := HB2.out.size
      have HCE := Lib.hid (fun v : Int => HC2.out.cell (i := i) hi 7 (.int .i64 v) { Ch.slot D1 i with pins := v } (by decide) rfl (fun _ _ => rfl))
      generalize Ch.slot D1 i = x at *
      obtain ⟨page, full, dirty, used, pins⟩ := x
      simp only at e7
      clear hbs hfr e0 e1 e2 e3 e4 e5 e6 hok hlen
      go_wp2_with fail
      go_ret
      refine ⟨[], _, rfl, ErrIs.nil _ _ _, ?_, ?_⟩
      · rw [HDD.out, wrap64_is]
        exact (HCE.out _).mono (fun k hk => hk.imp (fun h => h) fun h => ⟨by omega, by have := h.2; simp; omega⟩) (More.held HU.out (by simp; omega))
      · exact ((Beside.of_below HB1.out).same HB2.out).same (Beside.of_grown (grownBy_set (World.grownBy.refl w2 (some rg)) (i * 8 + 7) _) hUr)
    · have HL := Lib.hid hl
      clear hl HD
      go_upto_region 6 with (first
        | (go_at_call 55; (refine (cload_is (HC.out.below HB1.out) HO.out hn id HID.out HL.out A (fun wx hx => HS.out wx ((Beside.of_below HB1.out).same hx))).mono ?_); (rintro e w2 ⟨l2, v2, rfl, hE2, hC2, hB2⟩); (obtain ⟨t2, x2, rfl⟩ := hE2.iface hk); (have HE2 := Lib.hid hE2); (have HC2 := Lib.hid hC2); (have HB2 := Lib.hid hB2); (clear hE2 hC2 hB2))
        | (go_at_call 54; (refine (ccheck_in HC.out _ id HID.out).mono ?_); (rintro e w1 ⟨rfl, hb1⟩); (have HB1 := Lib.hid hb1); (clear hb1)))
      have hs1 : w.heap.size ≤ w1.heap.size := HB1.out.size
      have hs2 : w1.heap.size ≤ w2.heap.size := HB2.out.size
      go_wp2_with (go_at_call 43; (refine (faultWrap_any _ _ k _ _ A w1.heap.size HE2.out hk (by omega)).mono ?_); (rintro e w3 ⟨⟨v3, rfl, hE3⟩, hb3⟩); (have HE3 := Lib.hid hE3); (have HB3 := Lib.hid hb3); (clear hE3 hb3))
      go_ret
      have hs3 : w2.heap.size ≤ w3.heap.size := HB3.out.size
      exact ⟨_, _, rfl, HE3.out.mono hs1, (HC2.out.below HB3.out).mono (fun k hk => hk.imp (fun h => h) fun h => ⟨by omega, by omega⟩) (More.held HU.out (by omega)), ((Beside.of_below HB1.out).same HB2.out).same (Beside.of_below HB3.out)⟩
  · have HID := Lib.hid hid
    unfold Ch.pin at hD
    rw [if_neg hid] at hD
    obtain ⟨rfl, rfl⟩ := (by simpa only [Prod.mk.injEq] using hD : _ ∧ _)
    clear h ho hsU hU hD hid
    go_enter Tryz.func67, Tryz.ntmps67
    go_wp2_with (go_at_call 54; (refine (ccheck_out HC.out _ id HID.out A (HS.out _ (Beside.refl _ _))).mono ?_); (rintro e w3 ⟨⟨l3, v3, rfl, hE3⟩, hb3⟩); (obtain ⟨t3, z3, rfl⟩ := hE3.iface (by decide)); (have HE3 := Lib.hid hE3); (have HB3 := Lib.hid hb3); (clear hE3 hb3))
    go_ret
    exact ⟨_, _, rfl, HE3.out, (HC.out.below HB3.out).moreOf HU.out HB3.out.size, Beside.of_below HB3.out⟩

theorem Ch.unpin_in {C D : Ch.Cache} {id : Int} {k : Nat} (hid : Bk.In C.disk id) (hD : Ch.unpin C id = (D, k)) : (D = C ∧ k = 4 ∧ (Ch.at_ C id = -1 ∨ ∃ i : Nat, Ch.at_ C id = (i : Int) ∧ i < C.slots.length ∧ (Ch.slot C i).pins = 0)) ∨ (∃ i : Nat, Ch.at_ C id = (i : Int) ∧ i < C.slots.length ∧ (Ch.slot C i).pins ≠ 0 ∧ D = Ch.set C i { Ch.slot C i with pins := IntKind.i64.wrap ((Ch.slot C i).pins - 1) } ∧ k = 0) := by
  unfold Ch.unpin at hD
  rw [if_pos hid] at hD
  rcases Ch.at_range C id with ha | ⟨h1, h2⟩
  · rw [if_pos (by left; omega)] at hD
    obtain ⟨rfl, rfl⟩ := (by simpa only [Prod.mk.injEq] using hD : _ ∧ _)
    exact .inl ⟨rfl, rfl, .inl ha⟩
  · obtain ⟨i, hi⟩ : ∃ i : Nat, Ch.at_ C id = (i : Int) := ⟨(Ch.at_ C id).toNat, by omega⟩
    rw [hi, Int.toNat_natCast] at hD h2
    by_cases hp : (Ch.slot C i).pins = 0
    · rw [if_pos (.inr hp)] at hD
      obtain ⟨rfl, rfl⟩ := (by simpa only [Prod.mk.injEq] using hD : _ ∧ _)
      exact .inl ⟨rfl, rfl, .inr ⟨i, hi, h2, hp⟩⟩
    · rw [if_neg (by rintro (h | h); omega; exact hp h)] at hD
      obtain ⟨rfl, rfl⟩ := (by simpa only [Prod.mk.injEq] using hD : _ ∧ _)
      exact .inr ⟨i, hi, h2, hp, rfl, rfl⟩
set_option maxRecDepth 100000 in
set_option maxHeartbeats 2000000 in
theorem cunpin_is {S : Nat → Prop} [Has S 2] [Has S 4] {U : Nat → Prop} {w : World} {c dp rg rc n : Nat} {C D : Ch.Cache} {k : Nat} (h : CIn U w c dp rg rc C) (ho : Ch.Ok n C) (id : Int) (hD : Ch.unpin C id = (D, k)) (A : Nat → Addr) (hsU : ∀ w1, Beside U w w1 → SentsOn S w1 A) :
    Calls Tryz.prog 69 #[.pointer (some ⟨c, 0, none⟩), .int .i64 id] w (CAct U w A c dp rg rc D k) := by
  have hU : Held U w := h.held
  have hUr : U rg := h.own.2
  have hlen := ho.len
  have HC := Lib.hid h
  have HS := Lib.hid hsU
  have HU := Lib.hid hU
  by_cases hid : Bk.In C.disk id
  · have HID := Lib.hid hid
    have HD := Lib.hid (Ch.unpin_in hid hD)
    obtain ⟨a, ha⟩ : ∃ a, Ch.at_ C id = a := ⟨_, rfl⟩
    have HAT := Lib.hid (fun (w1 : World) (hb : Below w.heap.size w w1) => show Calls Tryz.prog 64 #[.pointer (some ⟨c, 0, none⟩), .int .i64 id] w1 fun e w' => e = .returned (.int .i64 a) ∧ Below w1.heap.size w1 w' by
      obtain ⟨F, M, xs, h1, _⟩ := HC.out.below hb
      exact at_is h1 hlen.2 id a ha)
    rw [ha] at HD
    clear h ho hsU hU hD hid ha
    go_enter Tryz.func69, Tryz.ntmps69
    rcases HD.out with ⟨hDD, hk, rfl | ⟨i, rfl, hi, hp⟩⟩ | ⟨i, rfl, hi, hp, hDD, hk⟩
    · subst hk
      have HDD := Lib.hid hDD
      clear hDD HD
      go_upto_region 6 with (first
        | (go_at_call 64; (refine (HAT.out _ HB1.out).mono ?_); (rintro e w2 ⟨rfl, hb2⟩); (have HB2 := Lib.hid hb2); (clear hb2))
        | (go_at_call 54; (refine (ccheck_in HC.out _ id HID.out).mono ?_); (rintro e w1 ⟨rfl, hb1⟩); (have HB1 := Lib.hid hb1); (clear hb1)))
      have HB := Lib.hid (below_step HB1.out HB2.out)
      have g4 := (HS.out _ (Beside.of_below HB.out)).cellOn 4 Has.has
      unfold sentG at g4
      go_wp2_with (go_at_call 47; (refine (faultAt_any _ _ [] 4 _ _ A w.heap.size (sent_err 4 (by decide) (by decide)) (by decide) HB.out.size).mono ?_); (rintro e w3 ⟨⟨v3, rfl, hE3⟩, hb3⟩); (have HE3 := Lib.hid hE3); (have HB3 := Lib.hid (below_step HB.out hb3)); (clear hE3 hb3))
      go_ret
      exact ⟨_, _, rfl, HE3.out, by rw [HDD.out]; exact (HC.out.below HB3.out).moreOf HU.out HB3.out.size, Beside.of_below HB3.out⟩
    · subst hk
      have HDD := Lib.hid hDD
      clear hDD HD
      have hi1 : (i : Int) < (C.slots.length : Int) := by omega
      go_upto_region 5 with (first
        | (go_at_call 64; (refine (HAT.out _ HB1.out).mono ?_); (rintro e w2 ⟨rfl, hb2⟩); (have HB2 := Lib.hid hb2); (clear hb2))
        | (go_at_call 54; (refine (ccheck_in HC.out _ id HID.out).mono ?_); (rintro e w1 ⟨rfl, hb1⟩); (have HB1 := Lib.hid hb1); (clear hb1)))
      have HB := Lib.hid (below_step HB1.out HB2.out)
      have HC2 := Lib.hid (HC.out.below HB.out)
      obtain ⟨m0, m1, m2⟩ := HC2.out.box.three
      obtain ⟨ba, bc, e0, e1, e2, e3, e4, e5, e6, e7, hbs, hfr⟩ := HC2.out.cells (i := i) hi
      rw [hp] at e7
      clear hbs hfr e0 e1 e2 e3 e4 e5 e6 hp
      have g4 := (HS.out _ (Beside.of_below HB.out)).cellOn 4 Has.has
      unfold sentG at g4
      go_wp2_with (go_at_call 47; (refine (faultAt_any _ _ [] 4 _ _ A w.heap.size (sent_err 4 (by decide) (by decide)) (by decide) HB.out.size).mono ?_); (rintro e w3 ⟨⟨v3, rfl, hE3⟩, hb3⟩); (have HE3 := Lib.hid hE3); (have HB3 := Lib.hid (below_step HB.out hb3)); (clear hE3 hb3))
      go_ret
      exact ⟨_, _, rfl, HE3.out, by rw [HDD.out]; exact (HC.out.below HB3.out).moreOf HU.out HB3.out.size, Beside.of_below HB3.out⟩
    · subst hk
      have HDD := Lib.hid hDD
      clear hDD HD
      have hi1 : (i : Int) < (C.slots.length : Int) := by omega
      go_upto_region 5 with (first
        | (go_at_call 64; (refine (HAT.out _ HB1.out).mono ?_); (rintro e w2 ⟨rfl, hb2⟩); (have HB2 := Lib.hid hb2); (clear hb2))
        | (go_at_call 54; (refine (ccheck_in HC.out _ id HID.out).mono ?_); (rintro e w1 ⟨rfl, hb1⟩); (have HB1 := Lib.hid hb1); (clear hb1)))
      have HB := Lib.hid (below_step HB1.out HB2.out)
      have HC2 := Lib.hid (HC.out.below HB.out)
      obtain ⟨m0, m1, m2⟩ := HC2.out.box.three
      obtain ⟨ba, bc, e0, e1, e2, e3, e4, e5, e6, e7, hbs, hfr⟩ := HC2.out.cells (i := i) hi
      have f7 := hfr (i * 8 + 7)
      have HCE := Lib.hid (fun v : Int => HC2.out.cell (i := i) hi 7 (.int .i64 v) { Ch.slot C i with pins := v } (by decide) rfl (fun _ _ => rfl))
      generalize Ch.slot C i = x at *
      obtain ⟨page, full, dirty, used, pins⟩ := x
      simp only at e7 hp
      clear hbs hfr e0 e1 e2 e3 e4 e5 e6
      have hs := HB.out.size
      have hpb : (pins == 0) = false := by simp [hp]
      go_wp2_with fail
      go_ret
      refine ⟨[], _, rfl, ErrIs.nil _ _ _, ?_, ?_⟩
      · rw [HDD.out, wrap64_is]
        exact (HCE.out _).moreOf HU.out (by simp; omega)
      · exact (Beside.of_below HB.out).same (Beside.of_grown (grownBy_set (World.grownBy.refl w2 (some rg)) (i * 8 + 7) _) hUr)
  · have HID := Lib.hid hid
    unfold Ch.unpin at hD
    rw [if_neg hid] at hD
    obtain ⟨rfl, rfl⟩ := (by simpa only [Prod.mk.injEq] using hD : _ ∧ _)
    clear h ho hsU hU hD hid
    go_enter Tryz.func69, Tryz.ntmps69
    go_wp2_with (go_at_call 54; (refine (ccheck_out HC.out _ id HID.out A (HS.out _ (Beside.refl _ _))).mono ?_); (rintro e w3 ⟨⟨l3, v3, rfl, hE3⟩, hb3⟩); (obtain ⟨t3, z3, rfl⟩ := hE3.iface (by decide)); (have HE3 := Lib.hid hE3); (have HB3 := Lib.hid hb3); (clear hE3 hb3))
    go_ret
    exact ⟨_, _, rfl, HE3.out, (HC.out.below HB3.out).moreOf HU.out HB3.out.size, Beside.of_below HB3.out⟩

set_option maxRecDepth 100000 in
set_option maxHeartbeats 2000000 in
theorem cdrop_is {U : Nat → Prop} {w : World} {c dp rg rc n : Nat} {C D : Ch.Cache} {b : Bool} (h : CIn U w c dp rg rc C) (ho : Ch.Ok n C) (id : Int) (hD : Ch.drop C id = (D, b)) :
    Calls Tryz.prog 74 #[.pointer (some ⟨c, 0, none⟩), .int .i64 id] w fun e w' => e = .returned (.bool b) ∧ CIn (More U w w') w' c dp rg rc D ∧ Beside U w w' := by
  have hU : Held U w := h.held
  have hUr : U rg := h.own.2
  have hlen := ho.len
  have HC := Lib.hid h
  have HU := Lib.hid hU
  obtain ⟨a, ha⟩ : ∃ a, Ch.at_ C id = a := ⟨_, rfl⟩
  have HAT := Lib.hid (show Calls Tryz.prog 64 #[.pointer (some ⟨c, 0, none⟩), .int .i64 id] w fun e w' => e = .returned (.int .i64 a) ∧ Below w.heap.size w w' by
    obtain ⟨F, M, xs, h1, _⟩ := h
    exact at_is h1 hlen.2 id a ha)
  have har := Ch.at_range C id
  unfold Ch.drop at hD
  rw [ha] at hD har
  clear h ho hU ha
  go_enter Tryz.func74, Tryz.ntmps74
  rcases har with rfl | ⟨h1, h2⟩
  · rw [if_neg (by decide)] at hD
    obtain ⟨rfl, rfl⟩ := (by simpa only [Prod.mk.injEq] using hD : _ ∧ _)
    clear hD
    go_wp2_with (go_at_call 64; (refine HAT.out.mono ?_); (rintro e w1 ⟨rfl, hb1⟩); (have HB1 := Lib.hid hb1); (clear hb1))
    go_ret
    exact ⟨rfl, (HC.out.below HB1.out).moreOf HU.out HB1.out.size, Beside.of_below HB1.out⟩
  · obtain ⟨i, rfl⟩ : ∃ i : Nat, a = (i : Int) := ⟨a.toNat, by omega⟩
    rw [if_pos h1, Int.toNat_natCast] at hD
    obtain ⟨rfl, rfl⟩ := (by simpa only [Prod.mk.injEq] using hD : _ ∧ _)
    rw [Int.toNat_natCast] at h2
    have hi1 : (i : Int) < (C.slots.length : Int) := by omega
    clear hD
    go_upto_region 5 with (go_at_call 64; (refine HAT.out.mono ?_); (rintro e w1 ⟨rfl, hb1⟩); (have HB1 := Lib.hid hb1); (clear hb1))
    have HC1 := Lib.hid (HC.out.below HB1.out)
    obtain ⟨m0, m1, m2⟩ := HC1.out.box.three
    obtain ⟨ba', bc', e0, e1, e2, e3, e4, e5, e6, e7, -, hfr⟩ := HC1.out.cells (i := i) h2
    obtain ⟨f0, f1, f2, f3, f4, f5, f6, f7⟩ := (⟨hfr (i * 8), hfr (i * 8 + 1), hfr (i * 8 + 2), hfr (i * 8 + 3), hfr (i * 8 + 4), hfr (i * 8 + 5), hfr (i * 8 + 6), hfr (i * 8 + 7)⟩ : _ ∧ _ ∧ _ ∧ _ ∧ _ ∧ _ ∧ _ ∧ _)
    have HC5 := Lib.hid (HC1.out.clear h2)
    have HG5 := Lib.hid (fill8_grown w1 rg i (Ch.Slot.zero, none, 0))
    have hs1 := HB1.out.size
    clear hfr
    go_wp2_with fail
    go_ret
    have hs5 := HG5.out.size
    exact ⟨rfl, HC5.out.moreOf HU.out (Nat.le_trans hs1 hs5), (Beside.of_below HB1.out).same (Beside.of_grown HG5.out hUr)⟩
end Go.Proofs.YtflbioiildndoaaGreatDoor

/- cache: Put (printed by wip/tools/gen_cacheput.py) -/
namespace Go.Proofs.YtflbioiildndoaaGreatDoor
open Go.RowKit
set_option linter.unusedVariables false
set_option linter.unusedSimpArgs false

theorem Ch.put_in {C D : Ch.Cache} {p : Pg.Page} {k : Nat} (hid : Bk.In C.disk p.id) (hc : Pg.checkC p C.disk.size = 0) (hD : Ch.put C p = (D, k)) : (∃ D1 i, Ch.place C p.id = (D1, i, 0) ∧ D = Ch.set D1 i ⟨p, true, true, true, (Ch.slot D1 i).pins⟩ ∧ k = 0) ∨ (∃ i, Ch.place C p.id = (D, i, k) ∧ k ≠ 0) := by
  obtain ⟨D1, i1, k1, hl⟩ : ∃ D1 i1 k1, Ch.place C p.id = (D1, i1, k1) := ⟨_, _, _, rfl⟩
  unfold Ch.put at hD
  rw [if_pos hid, if_pos hc, hl] at hD
  simp only at hD
  by_cases h0 : k1 = 0
  · rw [if_pos h0] at hD
    obtain ⟨rfl, rfl⟩ := (by simpa only [Prod.mk.injEq] using hD : _ ∧ _)
    exact .inl ⟨D1, i1, by rw [hl, h0], rfl, rfl⟩
  · rw [if_neg h0] at hD
    obtain ⟨rfl, rfl⟩ := (by simpa only [Prod.mk.injEq] using hD : _ ∧ _)
    exact .inr ⟨i1, hl, h0⟩
theorem BytesAt.beside {U : Nat → Prop} {w w' : World} {v : Value} {l : List UInt8} (h : BytesAt w v l) (hb : Beside U w w') (hn : ∀ k, v.ownBlock = some k → ¬ U k ∧ k < w.heap.size) : BytesAt w' v l :=
  h.on fun k hk => hb.block k (hn k hk).2 (hn k hk).1

set_option maxRecDepth 100000 in
set_option maxHeartbeats 4000000 in
theorem cput_in {S : Nat → Prop} [Has S 1] [Has S 2] [Has S 3] [Has S 5] [Has S 7] {U : Nat → Prop} {w : World} {c dp rg rc n : Nat} {C D : Ch.Cache} {k : Nat} (h : CIn U w c dp rg rc C) (ho : Ch.Ok n C) (hn : n ≤ 1000000) (p : Pg.Page) (a : Option Addr) (cc : Nat) (hb : BytesAt w (.slice a p.body.length cc) p.body) (hbU : ∀ k, (Value.slice a p.body.length cc).ownBlock = some k → ¬ U k ∧ k < w.heap.size) (hp2 : p.body.length ≤ 100000) (hid : Bk.In C.disk p.id) (hc : Pg.checkC p C.disk.size = 0) (hD : Ch.put C p = (D, k)) (A : Nat → Addr) (hsU : ∀ w1, Beside U w w1 → SentsOn S w1 A) :
    Calls Tryz.prog 38 #[.pointer (some ⟨c, 0, none⟩), .agg #[.int .i64 p.kind, .int .i64 p.id, .int .u64 (p.gen : Int), .slice a p.body.length cc]] w (CAct U w A c dp rg rc D k) := by
  have hU : Held U w := h.held
  have hUr : U rg := h.own.2
  have hlen := ho.len
  have HC := Lib.hid h
  have HO := Lib.hid ho
  have HS := Lib.hid hsU
  have HU := Lib.hid hU
  have HB := Lib.hid hb
  have HBU := Lib.hid hbU
  have HID := Lib.hid hid
  have HCK := Lib.hid hc
  have HD := Lib.hid (Ch.put_in hid hc hD)
  obtain ⟨at_, hat⟩ : ∃ a, Ch.at_ C p.id = a := ⟨_, rfl⟩
  have HAT := Lib.hid (fun (w1 : World) (hb : Below w.heap.size w w1) => show Calls Tryz.prog 64 #[.pointer (some ⟨c, 0, none⟩), .int .i64 p.id] w1 fun e w' => e = .returned (.int .i64 at_) ∧ Below w1.heap.size w1 w' by
    obtain ⟨F, M, xs, h1, _⟩ := HC.out.below hb
    exact at_is h1 hlen.2 p.id at_ hat)
  have HPLC := Lib.hid (show Ch.place C p.id = if 0 ≤ at_ then (C, at_.toNat, 0) else Ch.room C by unfold Ch.place; rw [hat])
  have har := Ch.at_range C p.id
  rw [hat] at har
  clear h ho hsU hU hb hbU hid hc hD hat
  go_enter Tryz.func38, Tryz.ntmps38
  go_upto_region 1 with fail
  obtain ⟨nb, hnb⟩ : ∃ nb, w.heap.size = nb := ⟨_, rfl⟩
  refine wp_name fun W hW => ?_
  have HX := Lib.hid (show BoxAt W nb [.int .i64 p.kind, .int .i64 p.id, .int .u64 (p.gen : Int), .slice a p.body.length cc] by rw [hW]; exact BoxAt.newAt _ _ hnb [_, _, _, _] _)
  have hbW : Below w.heap.size w W := by rw [hW]; exact (Below.refl _ _).alloc (Nat.le_refl _) _
  have HBW := Lib.hid hbW
  have HNB := Lib.hid hnb
  have HCW := Lib.hid (HC.out.below hbW)
  have hsW : nb < W.heap.size := HX.out.lt
  clear hW hbW
  rw [hnb]
  clear hnb
  obtain ⟨x0, x1, x2, x3⟩ := HX.out.four
  go_upto_region 4 with (go_at_call 54; (refine (ccheck_in HCW.out _ p.id HID.out).mono ?_); (rintro e w1 ⟨rfl, hb1⟩); (have HB1 := Lib.hid hb1); (clear hb1))
  have HX1 := Lib.hid (HX.out.below HB1.out)
  have HC1 := Lib.hid (HCW.out.below HB1.out)
  have HBW1 := Lib.hid (below_step HBW.out HB1.out)
  have hs1 : W.heap.size ≤ w1.heap.size := HB1.out.size
  clear x0 x1 x2 x3
  obtain ⟨x0, x1, x2, x3⟩ := HX1.out.four
  obtain ⟨m0, m1, m2⟩ := HC1.out.box.three
  obtain ⟨FD, hdd, -, -⟩ := HC1.out.disk
  have p0 := Near.cell (w := w1.drew) (row := none) (show w1.drew.cell? ⟨c, 0, none⟩ = _ from m0) (by simp)
  have r0 := Near.cell (w := w1.drew) (row := none) (show w1.drew.cell? ⟨nb, 0, none⟩ = _ from x0) (by simp)
  have r1 := Near.cell (w := w1.drew) (row := none) (show w1.drew.cell? ⟨nb, 1, none⟩ = _ from x1) (by simp)
  have r2 := Near.cell (w := w1.drew) (row := none) (show w1.drew.cell? ⟨nb, 2, none⟩ = _ from x2) (by simp)
  have r3 := Near.cell (w := w1.drew) (row := none) (show w1.drew.cell? ⟨nb, 3, none⟩ = _ from x3) (by simp)
  refine wp_region_mix (fun w' => ∃ x : Near w1.drew none, w' = x.world) [] 9 (by kernel_rfl) rfl ?_
  refine mix_reads_lit [0, 1, 2, 3, 4] 4 (by kernel_rfl) (by kernel_rfl) (by kernel_rfl) (by kernel_rfl) rfl (NearC.of (World.grownBy.refl _ _)) ?_
  simp only [pick, List.filterMap_cons, List.filterMap_nil, List.getElem?_cons_succ, List.getElem?_cons_zero]
  repeat (first | go_big_quiet_step (fail) | quiet_step (fail))
  refine wpQuiet_nil ?_
  clear p0 r0 r1 r2 r3 x0 x1 x2 x3 m0 m1 m2
  refine mix_deed_lit 5 3 (by kernel_rfl) (by kernel_rfl) rfl (fun K hK => ?_)
  simp only [comesUp, List.getElem?_cons_succ, List.getElem?_cons_zero]
  refine if_mk rfl ?_
  go_simp
  refine (geo_is hdd.drew).mono ?_
  rintro e w2 ⟨rfl, hb2⟩
  have b2 : Below w1.heap.size w1 w2 := below_step (Below.refl _ _).drew hb2
  refine hK _ _ (fun _ _ => NearC.of (grown_of_below hb2 (Nat.le_refl _) _)) ?_
  clear hK K
  refine mix_deed_lit 6 2 (by kernel_rfl) (by kernel_rfl) rfl (fun K hK => ?_)
  simp only [comesUp, List.getElem?_cons_succ, List.getElem?_cons_zero]
  refine if_mk rfl ?_
  go_simp
  refine hK _ _ (fun _ hc => hc) ?_
  clear hK K
  refine mix_deed_lit 7 1 (by kernel_rfl) (by kernel_rfl) rfl (fun K hK => ?_)
  simp only [comesUp, List.getElem?_cons_succ, List.getElem?_cons_zero]
  refine if_mk rfl ?_
  go_simp
  refine (check_good p a cc C.disk.size _ A (HS.out _ (Beside.of_below (below_step HBW1.out b2))) HCK.out).mono ?_
  rintro e w3 ⟨rfl, hb3⟩
  have b3 : Below w1.heap.size w1 w3 := below_step b2 hb3
  have b3' : Below w1.heap.size w1.drew w3 := ⟨b3.os, b3.tape, b3.output, b3.size, b3.block⟩
  refine hK _ _ (fun _ _ => NearC.of (grown_of_below b3' (Nat.le_refl _) _)) ?_
  clear hK K
  refine mix_reads_lit [8] 0 (by kernel_rfl) (by kernel_rfl) (by kernel_rfl) (by kernel_rfl) rfl (NearC.of (grown_of_below b3' (Nat.le_refl _) _)) ?_
  simp only [pick, List.filterMap_cons, List.filterMap_nil, List.getElem?_cons_succ, List.getElem?_cons_zero]
  repeat (first | go_big_quiet_step (fail) | quiet_step (fail))
  refine wpQuiet_nil ?_
  refine mix_done_lit (by kernel_rfl) ?_
  have HB3 := Lib.hid (below_step HBW1.out b3)
  have HX3 := Lib.hid (HX1.out.below b3)
  have HC3 := Lib.hid (HC1.out.below b3)
  have hs3 : w1.heap.size ≤ w3.heap.size := b3.size
  clear b2 hb2 hb3 b3 b3' hdd
  have hUnb : ¬ U nb := fun hu => by have := HU.out nb hu; have := HNB.out; omega
  obtain ⟨x0, x1, x2, x3⟩ := HX3.out.four
  go_upto_region 8 with (go_at_call 64; (refine (HAT.out _ HB3.out).mono ?_); (rintro e w4 ⟨rfl, hb4⟩); (have HB4 := Lib.hid hb4); (clear hb4))
  have HBW4 := Lib.hid (below_step HB3.out HB4.out)
  have HX4 := Lib.hid (HX3.out.below HB4.out)
  have HC4 := Lib.hid (HC3.out.below HB4.out)
  have hs4 : w3.heap.size ≤ w4.heap.size := HB4.out.size
  clear x0 x1 x2 x3
  rcases har with rfl | ⟨ha1, ha2⟩
  · have hpl := HPLC.out
    rw [if_neg (by decide)] at hpl
    rcases HD.out with ⟨D1, i, hl, hDD, hk⟩ | ⟨i, hl, hk⟩
    · subst hk
      have HPL := Lib.hid hl
      have HR := Lib.hid (hpl.symm.trans hl)
      have HDD := Lib.hid hDD
      clear hl hDD hpl HD
      go_upto_region 13 with (go_at_call 65; (refine (croom_is HC4.out HO.out hn HR.out A (fun wx hx => HS.out wx ((Beside.of_below HBW4.out).same hx))).mono ?_); (rintro e W3 ⟨l5, v5, rfl, hE5, hC5, hB5⟩); (obtain ⟨rfl, rfl⟩ := hE5.isNil); (have HC5 := Lib.hid hC5); (have HB5 := Lib.hid hB5); (clear hE5 hC5 hB5))
      have hs5 : w4.heap.size ≤ W3.heap.size := HB5.out.size
      have hwn := HNB.out
      have HBW3 := Lib.hid ((Beside.of_below HBW4.out).same HB5.out)
      have HCQ := Lib.hid (show CIn (More U w W3) W3 c dp rg rc D1 from HC5.out.mono (fun k hk => hk.imp (fun h => h) fun h => ⟨by omega, h.2⟩) (More.held HU.out (by omega)))
      have HXQ := Lib.hid (HX4.out.beside HB5.out hUnb)
      have HBQ := Lib.hid (show BytesAt W3.drew (.slice a p.body.length cc) p.body from HB.out.beside HBW3.out.drew HBU.out)
      obtain ⟨hpl1, hpl2, -, -, -⟩ := HO.out.place HPL.out
      obtain ⟨m0, m1, m2⟩ := HCQ.out.box.three
      obtain ⟨ba, bc, e0, e1, e2, e3, e4, e5, e6, e7, hbs, hfr⟩ := HCQ.out.cells (i := i) hpl2
      obtain ⟨pn, hpn⟩ : ∃ pn, (Ch.slot D1 i).pins = pn := ⟨_, rfl⟩
      rw [hpn] at e7
      obtain ⟨x0, x1, x2, x3⟩ := HXQ.out.four
      have hi1 : (i : Int) < (D1.slots.length : Int) := by omega
      have HPN := Lib.hid hpn
      clear hbs hfr e0 e1 e2 e3 e4 e5 e6 hpl1 hpn
      have p1 := Near.cell (w := W3.drew) (row := none) (show W3.drew.cell? ⟨c, 1, none⟩ = _ from m1) (by simp)
      have r0 := Near.cell (w := W3.drew) (row := none) (show W3.drew.cell? ⟨nb, 0, none⟩ = _ from x0) (by simp)
      have r1 := Near.cell (w := W3.drew) (row := none) (show W3.drew.cell? ⟨nb, 1, none⟩ = _ from x1) (by simp)
      have r2 := Near.cell (w := W3.drew) (row := none) (show W3.drew.cell? ⟨nb, 2, none⟩ = _ from x2) (by simp)
      have r3 := Near.cell (w := W3.drew) (row := none) (show W3.drew.cell? ⟨nb, 3, none⟩ = _ from x3) (by simp)
      have q7 := Near.cell (w := W3.drew) (row := none) (show W3.drew.cell? ⟨rg, i * 8 + 7, none⟩ = _ from e7) (by simp)
      refine wp_region_mix (fun w' => ∃ x : Near W3.drew none, w' = x.world) [17] 18 (by kernel_rfl) rfl ?_
      refine mix_reads_lit [0, 1, 2, 3, 4, 5, 7, 8, 9, 10, 11, 12, 13, 14] 4 (by kernel_rfl) (by kernel_rfl) (by kernel_rfl) (by kernel_rfl) rfl (NearC.of (World.grownBy.refl _ _)) ?_
      simp only [pick, List.filterMap_cons, List.filterMap_nil, List.getElem?_cons_succ, List.getElem?_cons_zero]
      repeat (first | go_big_quiet_step (fail) | quiet_step (fail))
      refine wpQuiet_nil ?_
      clear p1 r0 r1 r2 r3 q7 x0 x1 x2 x3 m0 m1 m2 e7
      refine mix_deed_lit 6 3 (by kernel_rfl) (by kernel_rfl) rfl (fun K hK => ?_)
      simp only [comesUp, List.getElem?_cons_succ, List.getElem?_cons_zero]
      refine if_mk rfl ?_
      go_simp
      refine (clonedP_is p a cc W3.drew HBQ.out hp2).mono ?_
      rintro e w4 ⟨⟨g4, rfl, ho4⟩, hb4⟩
      have b4 : Below W3.heap.size W3 w4 := below_step (Below.refl _ _).drew hb4
      refine hK _ _ (fun _ _ => NearC.of (grown_of_below hb4 (Nat.le_refl _) _)) ?_
      clear hK K
      have HO4 := Lib.hid (show Own w4 W3.heap.size (.slice (some ⟨g4, 0, none⟩) p.body.length p.body.length) p.body from ho4)
      have HB4 := Lib.hid b4
      have HC4 := Lib.hid (HCQ.out.below b4)
      refine mix_reads_lit [15, 16] 1 (by kernel_rfl) (by kernel_rfl) (by kernel_rfl) (by kernel_rfl) rfl (NearC.of (grown_of_below hb4 (Nat.le_refl _) _)) ?_
      simp only [pick, List.filterMap_cons, List.filterMap_nil, List.getElem?_cons_succ, List.getElem?_cons_zero]
      repeat (first | go_big_quiet_step (fail) | quiet_step (fail))
      refine wpQuiet_nil ?_
      clear ho4 hb4 b4
      obtain ⟨ba', bc', e0, e1, e2, e3, e4, e5, e6, e7, -, hfr⟩ := HC4.out.cells (i := i) hpl2
      obtain ⟨f0, f1, f2, f3, f4, f5, f6, f7⟩ := (⟨hfr (i * 8), hfr (i * 8 + 1), hfr (i * 8 + 2), hfr (i * 8 + 3), hfr (i * 8 + 4), hfr (i * 8 + 5), hfr (i * 8 + 6), hfr (i * 8 + 7)⟩ : _ ∧ _ ∧ _ ∧ _ ∧ _ ∧ _ ∧ _ ∧ _)
      clear hfr
      have hs4 : W3.heap.size ≤ w4.heap.size := HB4.out.size
      have HFI := Lib.hid (HC4.out.fill (V := More U w w4) hpl2 (⟨p, true, true, true, pn⟩, some ⟨g4, 0, none⟩, p.body.length) HO4.out.bytes
        (fun k hk => by
          have h1 := HO4.out.lt k hk
          have h2 : k < w4.heap.size := h1.2
          refine ⟨fun hm => ?_, h2, .inr ⟨by omega, h2⟩⟩
          rcases hm with hm | hm
          · have := HU.out k hm; omega
          · omega)
        (fun k hk => hk.imp (fun h => h) fun h => ⟨h.1, by omega⟩) (More.held HU.out (by omega)))
      have HG := Lib.hid (fill8_grown w4 rg i (⟨p, true, true, true, pn⟩, some ⟨g4, 0, none⟩, p.body.length))
      refine mix_deed_lit 17 0 (by kernel_rfl) (by kernel_rfl) rfl (fun K hK => ?_)
      simp only [comesUp, List.getElem?_cons_succ, List.getElem?_cons_zero]
      refine if_mk rfl ?_
      go_simp
      refine hK _ _ (fun h => by simp [keeps] at h) ?_
      clear hK K e0 e1 e2 e3 e4 e5 e6 e7 f0 f1 f2 f3 f4 f5 f6 f7
      refine mix_done_lit (by kernel_rfl) ?_
      refine q_name fun Z hZ => ?_
      have hZ' : Z = fill8 w4 rg i (⟨p, true, true, true, pn⟩, some ⟨g4, 0, none⟩, p.body.length) := hZ
      clear hZ
      have HZ := Lib.hid (show CIn (More U w w4) Z c dp rg rc (Ch.set D1 i ⟨p, true, true, true, pn⟩) by rw [hZ']; exact HFI.out)
      have HZB := Lib.hid (show Beside U w Z by rw [hZ']; exact (HBW3.out.same (Beside.of_below HB4.out)).same (Beside.of_grown HG.out hUr))
      have HZS := Lib.hid (show w4.heap.size ≤ Z.heap.size by rw [hZ']; exact HG.out.size)
      clear hZ'
      go_wp2_with fail
      go_ret
      refine ⟨[], _, rfl, ErrIs.nil _ _ _, ?_, HZB.out⟩
      rw [HDD.out, HPN.out]
      exact HZ.out.fit HU.out (by omega) HZS.out
    · have HR := Lib.hid (hpl.symm.trans hl)
      clear hl hpl HD
      go_upto_region 12 with (go_at_call 65; (refine (croom_is HC4.out HO.out hn HR.out A (fun wx hx => HS.out wx ((Beside.of_below HBW4.out).same hx))).mono ?_); (rintro e W3 ⟨l5, v5, rfl, hE5, hC5, hB5⟩); (obtain ⟨t5, z5, rfl⟩ := hE5.iface hk); (have HE5 := Lib.hid hE5); (have HC5 := Lib.hid hC5); (have HB5 := Lib.hid hB5); (clear hE5 hC5 hB5))
      have hs5 : w4.heap.size ≤ W3.heap.size := HB5.out.size
      have hwn := HNB.out
      go_wp2_with (go_at_call 43; (refine (faultWrap_any _ _ k _ _ A w4.heap.size HE5.out hk (by omega)).mono ?_); (rintro e w6 ⟨⟨v6, rfl, hE6⟩, hb6⟩); (have HE6 := Lib.hid hE6); (have HB6 := Lib.hid hb6); (clear hE6 hb6))
      go_ret
      have hs6 : W3.heap.size ≤ w6.heap.size := HB6.out.size
      exact ⟨_, _, rfl, HE6.out.mono (by omega), (HC5.out.below HB6.out).mono (fun k hk => hk.imp (fun h => h) fun h => ⟨by omega, by omega⟩) (More.held HU.out (by omega)), ((Beside.of_below HBW4.out).same HB5.out).same (Beside.of_below HB6.out)⟩
  · obtain ⟨j, rfl⟩ : ∃ j : Nat, at_ = (j : Int) := ⟨at_.toNat, by omega⟩
    have hpl := HPLC.out
    rw [if_pos ha1, Int.toNat_natCast] at hpl
    rcases HD.out with ⟨D1, i, hl, hDD, hk⟩ | ⟨i, hl, hk⟩
    · have hq := hpl.symm.trans hl
      obtain ⟨rfl, rfl, -⟩ := (by simpa only [Prod.mk.injEq] using hq : _ ∧ _ ∧ _)
      subst hk
      have HPL := Lib.hid hl
      have HDD := Lib.hid hDD
      clear hl hDD hpl HD hq
      go_upto_region 13 with fail
      refine wp_name fun W3 hW3 => ?_
      have hs5 : w4.heap.size ≤ W3.heap.size := by rw [hW3]; exact Nat.le_refl _
      have hwn := HNB.out
      have HBW3 := Lib.hid (show Beside U w W3 by rw [hW3]; exact Beside.of_below HBW4.out)
      have HCQ := Lib.hid (show CIn (More U w W3) W3 c dp rg rc C by rw [hW3]; exact HC4.out.moreOf HU.out (by omega))
      have HXQ := Lib.hid (show BoxAt W3 nb _ by rw [hW3]; exact HX4.out)
      have HBQ := Lib.hid (show BytesAt W3.drew (.slice a p.body.length cc) p.body from HB.out.beside HBW3.out.drew HBU.out)
      clear hW3
      obtain ⟨hpl1, hpl2, -, -, -⟩ := HO.out.place HPL.out
      obtain ⟨m0, m1, m2⟩ := HCQ.out.box.three
      obtain ⟨ba, bc, e0, e1, e2, e3, e4, e5, e6, e7, hbs, hfr⟩ := HCQ.out.cells (i := j) hpl2
      obtain ⟨pn, hpn⟩ : ∃ pn, (Ch.slot C j).pins = pn := ⟨_, rfl⟩
      rw [hpn] at e7
      obtain ⟨x0, x1, x2, x3⟩ := HXQ.out.four
      have hi1 : (j : Int) < (C.slots.length : Int) := by omega
      have HPN := Lib.hid hpn
      clear hbs hfr e0 e1 e2 e3 e4 e5 e6 hpl1 hpn
      have p1 := Near.cell (w := W3.drew) (row := none) (show W3.drew.cell? ⟨c, 1, none⟩ = _ from m1) (by simp)
      have r0 := Near.cell (w := W3.drew) (row := none) (show W3.drew.cell? ⟨nb, 0, none⟩ = _ from x0) (by simp)
      have r1 := Near.cell (w := W3.drew) (row := none) (show W3.drew.cell? ⟨nb, 1, none⟩ = _ from x1) (by simp)
      have r2 := Near.cell (w := W3.drew) (row := none) (show W3.drew.cell? ⟨nb, 2, none⟩ = _ from x2) (by simp)
      have r3 := Near.cell (w := W3.drew) (row := none) (show W3.drew.cell? ⟨nb, 3, none⟩ = _ from x3) (by simp)
      have q7 := Near.cell (w := W3.drew) (row := none) (show W3.drew.cell? ⟨rg, j * 8 + 7, none⟩ = _ from e7) (by simp)
      refine wp_region_mix (fun w' => ∃ x : Near W3.drew none, w' = x.world) [17] 18 (by kernel_rfl) rfl ?_
      refine mix_reads_lit [0, 1, 2, 3, 4, 5, 7, 8, 9, 10, 11, 12, 13, 14] 4 (by kernel_rfl) (by kernel_rfl) (by kernel_rfl) (by kernel_rfl) rfl (NearC.of (World.grownBy.refl _ _)) ?_
      simp only [pick, List.filterMap_cons, List.filterMap_nil, List.getElem?_cons_succ, List.getElem?_cons_zero]
      repeat (first | go_big_quiet_step (fail) | quiet_step (fail))
      refine wpQuiet_nil ?_
      clear p1 r0 r1 r2 r3 q7 x0 x1 x2 x3 m0 m1 m2 e7
      refine mix_deed_lit 6 3 (by kernel_rfl) (by kernel_rfl) rfl (fun K hK => ?_)
      simp only [comesUp, List.getElem?_cons_succ, List.getElem?_cons_zero]
      refine if_mk rfl ?_
      go_simp
      refine (clonedP_is p a cc W3.drew HBQ.out hp2).mono ?_
      rintro e w4 ⟨⟨g4, rfl, ho4⟩, hb4⟩
      have b4 : Below W3.heap.size W3 w4 := below_step (Below.refl _ _).drew hb4
      refine hK _ _ (fun _ _ => NearC.of (grown_of_below hb4 (Nat.le_refl _) _)) ?_
      clear hK K
      have HO4 := Lib.hid (show Own w4 W3.heap.size (.slice (some ⟨g4, 0, none⟩) p.body.length p.body.length) p.body from ho4)
      have HB4 := Lib.hid b4
      have HC4 := Lib.hid (HCQ.out.below b4)
      refine mix_reads_lit [15, 16] 1 (by kernel_rfl) (by kernel_rfl) (by kernel_rfl) (by kernel_rfl) rfl (NearC.of (grown_of_below hb4 (Nat.le_refl _) _)) ?_
      simp only [pick, List.filterMap_cons, List.filterMap_nil, List.getElem?_cons_succ, List.getElem?_cons_zero]
      repeat (first | go_big_quiet_step (fail) | quiet_step (fail))
      refine wpQuiet_nil ?_
      clear ho4 hb4 b4
      obtain ⟨ba', bc', e0, e1, e2, e3, e4, e5, e6, e7, -, hfr⟩ := HC4.out.cells (i := j) hpl2
      obtain ⟨f0, f1, f2, f3, f4, f5, f6, f7⟩ := (⟨hfr (j * 8), hfr (j * 8 + 1), hfr (j * 8 + 2), hfr (j * 8 + 3), hfr (j * 8 + 4), hfr (j * 8 + 5), hfr (j * 8 + 6), hfr (j * 8 + 7)⟩ : _ ∧ _ ∧ _ ∧ _ ∧ _ ∧ _ ∧ _ ∧ _)
      clear hfr
      have hs4 : W3.heap.size ≤ w4.heap.size := HB4.out.size
      have HFI := Lib.hid (HC4.out.fill (V := More U w w4) hpl2 (⟨p, true, true, true, pn⟩, some ⟨g4, 0, none⟩, p.body.length) HO4.out.bytes
        (fun k hk => by
          have h1 := HO4.out.lt k hk
          have h2 : k < w4.heap.size := h1.2
          refine ⟨fun hm => ?_, h2, .inr ⟨by omega, h2⟩⟩
          rcases hm with hm | hm
          · have := HU.out k hm; omega
          · omega)
        (fun k hk => hk.imp (fun h => h) fun h => ⟨h.1, by omega⟩) (More.held HU.out (by omega)))
      have HG := Lib.hid (fill8_grown w4 rg j (⟨p, true, true, true, pn⟩, some ⟨g4, 0, none⟩, p.body.length))
      refine mix_deed_lit 17 0 (by kernel_rfl) (by kernel_rfl) rfl (fun K hK => ?_)
      simp only [comesUp, List.getElem?_cons_succ, List.getElem?_cons_zero]
      refine if_mk rfl ?_
      go_simp
      refine hK _ _ (fun h => by simp [keeps] at h) ?_
      clear hK K e0 e1 e2 e3 e4 e5 e6 e7 f0 f1 f2 f3 f4 f5 f6 f7
      refine mix_done_lit (by kernel_rfl) ?_
      refine q_name fun Z hZ => ?_
      have hZ' : Z = fill8 w4 rg j (⟨p, true, true, true, pn⟩, some ⟨g4, 0, none⟩, p.body.length) := hZ
      clear hZ
      have HZ := Lib.hid (show CIn (More U w w4) Z c dp rg rc (Ch.set C j ⟨p, true, true, true, pn⟩) by rw [hZ']; exact HFI.out)
      have HZB := Lib.hid (show Beside U w Z by rw [hZ']; exact (HBW3.out.same (Beside.of_below HB4.out)).same (Beside.of_grown HG.out hUr))
      have HZS := Lib.hid (show w4.heap.size ≤ Z.heap.size by rw [hZ']; exact HG.out.size)
      clear hZ'
      go_wp2_with fail
      go_ret
      refine ⟨[], _, rfl, ErrIs.nil _ _ _, ?_, HZB.out⟩
      rw [HDD.out, HPN.out]
      exact HZ.out.fit HU.out (by omega) HZS.out
    · have hq := hpl.symm.trans hl
      obtain ⟨-, -, h0⟩ := (by simpa only [Prod.mk.injEq] using hq : _ ∧ _ ∧ _)
      exact absurd h0.symm hk
end Go.Proofs.YtflbioiildndoaaGreatDoor

/- cache: Put of a page that is not right; Flush, Forget -/
namespace Go.Proofs.YtflbioiildndoaaGreatDoor
open Go.RowKit
set_option linter.unusedVariables false
set_option linter.unusedSimpArgs false

set_option maxRecDepth 100000 in
set_option maxHeartbeats 2000000 in
theorem cput_out {S : Nat → Prop} [Has S 2] {U : Nat → Prop} {w : World} {c dp rg rc n : Nat} {C : Ch.Cache} (h : CIn U w c dp rg rc C) (p : Pg.Page) (a : Option Addr) (cc : Nat) (hid : ¬ Bk.In C.disk p.id) (A : Nat → Addr) (hsU : ∀ w1, Beside U w w1 → SentsOn S w1 A) :
    Calls Tryz.prog 38 #[.pointer (some ⟨c, 0, none⟩), .agg #[.int .i64 p.kind, .int .i64 p.id, .int .u64 (p.gen : Int), .slice a p.body.length cc]] w (CAct U w A c dp rg rc C 2) := by
  have hU : Held U w := h.held
  have HC := Lib.hid h
  have HS := Lib.hid hsU
  have HU := Lib.hid hU
  have HID := Lib.hid hid
  clear h hsU hU hid
  go_enter Tryz.func38, Tryz.ntmps38
  go_upto_region 1 with fail
  obtain ⟨nb, hnb⟩ : ∃ nb, w.heap.size = nb := ⟨_, rfl⟩
  refine wp_name fun W hW => ?_
  have HX := Lib.hid (show BoxAt W nb [.int .i64 p.kind, .int .i64 p.id, .int .u64 (p.gen : Int), .slice a p.body.length cc] by rw [hW]; exact BoxAt.newAt _ _ hnb [_, _, _, _] _)
  have hbW : Below w.heap.size w W := by rw [hW]; exact (Below.refl _ _).alloc (Nat.le_refl _) _
  have HBW := Lib.hid hbW
  have HCW := Lib.hid (HC.out.below hbW)
  clear hW hbW
  rw [hnb]
  clear hnb
  obtain ⟨x0, x1, x2, x3⟩ := HX.out.four
  go_wp2_with (go_at_call 54; (refine (ccheck_out HCW.out _ p.id HID.out A (HS.out _ (Beside.of_below HBW.out))).mono ?_); (rintro e w1 ⟨⟨l1, v1, rfl, hE1⟩, hb1⟩); (obtain ⟨t1, z1, rfl⟩ := hE1.iface (by decide)); (have HE1 := Lib.hid hE1); (have HB1 := Lib.hid hb1); (clear hE1 hb1))
  go_ret
  have hb := below_step HBW.out HB1.out
  exact ⟨_, _, rfl, HE1.out.mono HBW.out.size, (HCW.out.below HB1.out).moreOf HU.out hb.size, Beside.of_below hb⟩
set_option maxRecDepth 100000 in
set_option maxHeartbeats 2000000 in
theorem cput_form {S : Nat → Prop} [Has S 1] [Has S 2] [Has S 5] {U : Nat → Prop} {w : World} {c dp rg rc n : Nat} {C : Ch.Cache} (h : CIn U w c dp rg rc C) (hsz : C.disk.size ≤ 1024) (p : Pg.Page) (a : Option Addr) (cc : Nat) (hp2 : p.body.length ≤ 100000) (hid : Bk.In C.disk p.id) (k : Nat) (hc : Pg.checkC p C.disk.size = k) (hk : k ≠ 0) (A : Nat → Addr) (hsU : ∀ w1, Beside U w w1 → SentsOn S w1 A) :
    Calls Tryz.prog 38 #[.pointer (some ⟨c, 0, none⟩), .agg #[.int .i64 p.kind, .int .i64 p.id, .int .u64 (p.gen : Int), .slice a p.body.length cc]] w (CAct U w A c dp rg rc C k) := by
  have hU : Held U w := h.held
  have HC := Lib.hid h
  have HS := Lib.hid hsU
  have HU := Lib.hid hU
  have HID := Lib.hid hid
  have hsz1 : -9223372036854775808 ≤ (C.disk.size : Int) ∧ (C.disk.size : Int) ≤ 9223372036854775807 := by omega
  have hp3 : p.body.length ≤ 9223372036854775807 := by omega
  have HCK := Lib.hid (fun (w1 : World) (hb : Below w.heap.size w w1) => check_bad p a cc C.disk.size w1 A (hsU w1 (Beside.of_below hb)) hsz1 hp3 (by rw [hc]; exact hk))
  rw [hc] at HCK
  clear h hsU hU hid hsz1 hp3 hc
  go_enter Tryz.func38, Tryz.ntmps38
  go_upto_region 1 with fail
  obtain ⟨nb, hnb⟩ : ∃ nb, w.heap.size = nb := ⟨_, rfl⟩
  refine wp_name fun W hW => ?_
  have HX := Lib.hid (show BoxAt W nb [.int .i64 p.kind, .int .i64 p.id, .int .u64 (p.gen : Int), .slice a p.body.length cc] by rw [hW]; exact BoxAt.newAt _ _ hnb [_, _, _, _] _)
  have hbW : Below w.heap.size w W := by rw [hW]; exact (Below.refl _ _).alloc (Nat.le_refl _) _
  have HBW := Lib.hid hbW
  have HNB := Lib.hid hnb
  have HCW := Lib.hid (HC.out.below hbW)
  have hsW : nb < W.heap.size := HX.out.lt
  clear hW hbW
  rw [hnb]
  clear hnb
  obtain ⟨x0, x1, x2, x3⟩ := HX.out.four
  go_upto_region 4 with (go_at_call 54; (refine (ccheck_in HCW.out _ p.id HID.out).mono ?_); (rintro e w1 ⟨rfl, hb1⟩); (have HB1 := Lib.hid hb1); (clear hb1))
  have HX1 := Lib.hid (HX.out.below HB1.out)
  have HC1 := Lib.hid (HCW.out.below HB1.out)
  have HBW1 := Lib.hid (below_step HBW.out HB1.out)
  have hs1 : W.heap.size ≤ w1.heap.size := HB1.out.size
  clear x0 x1 x2 x3
  obtain ⟨x0, x1, x2, x3⟩ := HX1.out.four
  obtain ⟨m0, m1, m2⟩ := HC1.out.box.three
  obtain ⟨FD, hdd, -, -⟩ := HC1.out.disk
  have p0 := Near.cell (w := w1.drew) (row := none) (show w1.drew.cell? ⟨c, 0, none⟩ = _ from m0) (by simp)
  have r0 := Near.cell (w := w1.drew) (row := none) (show w1.drew.cell? ⟨nb, 0, none⟩ = _ from x0) (by simp)
  have r1 := Near.cell (w := w1.drew) (row := none) (show w1.drew.cell? ⟨nb, 1, none⟩ = _ from x1) (by simp)
  have r2 := Near.cell (w := w1.drew) (row := none) (show w1.drew.cell? ⟨nb, 2, none⟩ = _ from x2) (by simp)
  have r3 := Near.cell (w := w1.drew) (row := none) (show w1.drew.cell? ⟨nb, 3, none⟩ = _ from x3) (by simp)
  refine wp_region_mix (fun w' => ∃ x : Near w1.drew none, w' = x.world) [] 9 (by kernel_rfl) rfl ?_
  refine mix_reads_lit [0, 1, 2, 3, 4] 4 (by kernel_rfl) (by kernel_rfl) (by kernel_rfl) (by kernel_rfl) rfl (NearC.of (World.grownBy.refl _ _)) ?_
  simp only [pick, List.filterMap_cons, List.filterMap_nil, List.getElem?_cons_succ, List.getElem?_cons_zero]
  repeat (first | go_big_quiet_step (fail) | quiet_step (fail))
  refine wpQuiet_nil ?_
  clear p0 r0 r1 r2 r3 x0 x1 x2 x3 m0 m1 m2
  refine mix_deed_lit 5 3 (by kernel_rfl) (by kernel_rfl) rfl (fun K hK => ?_)
  simp only [comesUp, List.getElem?_cons_succ, List.getElem?_cons_zero]
  refine if_mk rfl ?_
  go_simp
  refine (geo_is hdd.drew).mono ?_
  rintro e w2 ⟨rfl, hb2⟩
  have b2 : Below w1.heap.size w1 w2 := below_step (Below.refl _ _).drew hb2
  refine hK _ _ (fun _ _ => NearC.of (grown_of_below hb2 (Nat.le_refl _) _)) ?_
  clear hK K
  refine mix_deed_lit 6 2 (by kernel_rfl) (by kernel_rfl) rfl (fun K hK => ?_)
  simp only [comesUp, List.getElem?_cons_succ, List.getElem?_cons_zero]
  refine if_mk rfl ?_
  go_simp
  refine hK _ _ (fun _ hc => hc) ?_
  clear hK K
  refine mix_deed_lit 7 1 (by kernel_rfl) (by kernel_rfl) rfl (fun K hK => ?_)
  simp only [comesUp, List.getElem?_cons_succ, List.getElem?_cons_zero]
  refine if_mk rfl ?_
  go_simp
  refine (HCK.out _ (below_step HBW1.out b2)).mono ?_
  rintro e w3 ⟨⟨t3, z3, l3, rfl, hE3⟩, hb3⟩
  have b3 : Below w1.heap.size w1 w3 := below_step b2 hb3
  have b3' : Below w1.heap.size w1.drew w3 := ⟨b3.os, b3.tape, b3.output, b3.size, b3.block⟩
  refine hK _ _ (fun _ _ => NearC.of (grown_of_below b3' (Nat.le_refl _) _)) ?_
  clear hK K
  refine mix_reads_lit [8] 0 (by kernel_rfl) (by kernel_rfl) (by kernel_rfl) (by kernel_rfl) rfl (NearC.of (grown_of_below b3' (Nat.le_refl _) _)) ?_
  simp only [pick, List.filterMap_cons, List.filterMap_nil, List.getElem?_cons_succ, List.getElem?_cons_zero]
  repeat (first | go_big_quiet_step (fail) | quiet_step (fail))
  refine wpQuiet_nil ?_
  refine mix_done_lit (by kernel_rfl) ?_
  have HB3 := Lib.hid (below_step HBW1.out b3)
  have HE3 := Lib.hid (hE3.mono (B' := w.heap.size) (by have := HBW1.out.size; have := b2.size; omega))
  clear b2 hb2 hb3 b3 b3' hdd hE3
  go_wp2_with (go_at_call 43; (refine (faultWrap_any _ _ k _ _ A w.heap.size HE3.out hk HB3.out.size).mono ?_); (rintro e w6 ⟨⟨v6, rfl, hE6⟩, hb6⟩); (have HE6 := Lib.hid hE6); (have HB6 := Lib.hid (below_step HB3.out hb6)); (clear hE6 hb6))
  go_ret
  exact ⟨_, _, rfl, HE6.out, (HC.out.below HB6.out).moreOf HU.out HB6.out.size, Beside.of_below HB6.out⟩
/-- Put -/
theorem cput_is {S : Nat → Prop} [Has S 1] [Has S 2] [Has S 3] [Has S 5] [Has S 7] {U : Nat → Prop} {w : World} {c dp rg rc n : Nat} {C D : Ch.Cache} {k : Nat} (h : CIn U w c dp rg rc C) (ho : Ch.Ok n C) (hn : n ≤ 1000000) (p : Pg.Page) (a : Option Addr) (cc : Nat) (hb : BytesAt w (.slice a p.body.length cc) p.body) (hbU : ∀ k, (Value.slice a p.body.length cc).ownBlock = some k → ¬ U k ∧ k < w.heap.size) (hp2 : p.body.length ≤ 100000) (hD : Ch.put C p = (D, k)) (A : Nat → Addr) (hsU : ∀ w1, Beside U w w1 → SentsOn S w1 A) :
    Calls Tryz.prog 38 #[.pointer (some ⟨c, 0, none⟩), .agg #[.int .i64 p.kind, .int .i64 p.id, .int .u64 (p.gen : Int), .slice a p.body.length cc]] w (CAct U w A c dp rg rc D k) := by
  by_cases hid : Bk.In C.disk p.id
  · by_cases hc : Pg.checkC p C.disk.size = 0
    · exact cput_in h ho hn p a cc hb hbU hp2 hid hc hD A hsU
    · unfold Ch.put at hD
      rw [if_pos hid, if_neg hc] at hD
      obtain ⟨rfl, rfl⟩ := (by simpa only [Prod.mk.injEq] using hD : _ ∧ _)
      exact cput_form (n := n) h ho.disk.s.2 p a cc hp2 hid _ rfl hc A hsU
  · unfold Ch.put at hD
    rw [if_neg hid] at hD
    obtain ⟨rfl, rfl⟩ := (by simpa only [Prod.mk.injEq] using hD : _ ∧ _)
    exact cput_out (n := n) h p a cc hid A hsU

theorem Ch.flushK_step {C : Ch.Cache} {k N : Nat} (h : k < N) {D1 : Ch.Cache} {k1 : Nat} (hw : Ch.write C k = (D1, k1)) : Ch.flushK C k (N - k) = if k1 = 0 then Ch.flushK D1 (k + 1) (N - (k + 1)) else (D1, k1) := by
  obtain ⟨m, hm⟩ : ∃ m, N - k = m + 1 := ⟨N - k - 1, by omega⟩
  rw [hm, Ch.flushK, show N - (k + 1) = m by omega, hw]
set_option maxRecDepth 100000 in
set_option maxHeartbeats 2000000 in
theorem cflush_is {S : Nat → Prop} [Has S 1] [Has S 2] [Has S 5] [Has S 7] {U : Nat → Prop} {w : World} {c dp rg rc n : Nat} {C D : Ch.Cache} {kk : Nat} (h : CIn U w c dp rg rc C) (ho : Ch.Ok n C) (hn : n ≤ 900000) (hD : Ch.flush C = (D, kk)) (A : Nat → Addr) (hsU : ∀ w1, Beside U w w1 → SentsOn S w1 A) :
    Calls Tryz.prog 13 #[.pointer (some ⟨c, 0, none⟩)] w (CAct U w A c dp rg rc D kk) := by
  obtain ⟨m0, m1, m2⟩ := h.box.three
  obtain ⟨N, hN⟩ : ∃ N, C.slots.length = N := ⟨_, rfl⟩
  have hlen := ho.len
  have hU : Held U w := h.held
  have HC := Lib.hid h
  have HO := Lib.hid ho
  have HS := Lib.hid hsU
  have HU := Lib.hid hU
  have HNN := Lib.hid hN
  have HD := Lib.hid (show Ch.flushK C 0 N = (D, kk) by rw [← hN]; exact hD)
  rw [hN] at m1 hlen
  clear h ho hsU hU hN hD
  go_enter Tryz.func13, Tryz.ntmps13
  go_wp2_with fail
  go_loopw [14] (fun i wr => ∃ (k : Nat) (Cj : Ch.Cache), k ≤ N ∧ i = .int .i64 k ∧ Ch.flushK Cj k (N - k) = (D, kk) ∧ Ch.Ok (n + k) Cj ∧ Cj.slots.length = N ∧ CIn (More U w wr) wr c dp rg rc Cj ∧ Beside U w wr) (fun i _ => N - (intOf i).toNat)
  case atStart => exact ⟨0, C, by omega, rfl, HD.out, HO.out, HNN.out, HC.out.moreOf HU.out (Nat.le_refl _), Beside.refl _ _⟩
  case round =>
    obtain ⟨k, Cj, hk, rfl, hrd, hok, hlj, hcj, hbj⟩ := hrel
    have HRD := Lib.hid hrd
    have HOK := Lib.hid hok
    have HLJ := Lib.hid hlj
    have HCJ := Lib.hid hcj
    have HBJ := Lib.hid hbj
    clear m0 m1 m2 hrd hok hlj hcj hbj
    have hsr : w.heap.size ≤ wr.heap.size := HBJ.out.size
    by_cases hlt : k < N
    · have hlt1 : (k : Int) < (N : Int) := by omega
      obtain ⟨D1, k1, hw⟩ : ∃ D1 k1, Ch.write Cj k = (D1, k1) := ⟨_, _, rfl⟩
      have HST := Lib.hid (Ch.flushK_step hlt hw)
      have HW := Lib.hid hw
      have hgeo := Ch.write_geo Cj k
      have hok1 := HOK.out.write (i := k) (by rw [HLJ.out]; exact hlt)
      rw [HW.out] at hgeo hok1
      have HGEO := Lib.hid hgeo
      have HOK1 := Lib.hid hok1
      clear hgeo hok1 hw
      go_upto_region 7 with (go_at_call 42; (refine (cwrite_is HCJ.out HOK.out (by omega) k (by rw [HLJ.out]; exact hlt) HW.out A (fun wx hx => HS.out wx (HBJ.out.more HU.out hx))).mono ?_); (rintro e w3 ⟨l3, v3, rfl, hE3, hC3, hB3⟩); (have HE3 := Lib.hid hE3); (have HC3 := Lib.hid hC3); (have HB3 := Lib.hid hB3); (clear hE3 hC3 hB3))
      have hs3 : wr.heap.size ≤ w3.heap.size := HB3.out.size
      have HBW3 := Lib.hid (HBJ.out.more HU.out HB3.out)
      have HCW3 := Lib.hid (HC3.out.fit2 HU.out hsr hs3)
      by_cases hk1 : k1 = 0
      · subst hk1
        obtain ⟨rfl, rfl⟩ := HE3.out.isNil
        have HFIN := Lib.hid (HRD.out.symm.trans (HST.out.trans (if_pos rfl)))
        clear HST
        go_wp2_with fail
        go_roundw
        case rel => exact ⟨k + 1, D1, by omega, by go_num, HFIN.out.symm, HOK1.out, HGEO.out.1.trans HLJ.out, HCW3.out, HBW3.out⟩
        case measure => simp [intOf]; omega
      · obtain ⟨t3, x3, rfl⟩ := HE3.out.iface hk1
        have HFIN := Lib.hid (HRD.out.symm.trans (HST.out.trans (if_neg hk1)))
        clear HST
        go_wp2_with (go_at_call 43; (refine (faultWrap_any _ _ k1 _ _ A w.heap.size (HE3.out.mono hsr) hk1 (by omega)).mono ?_); (rintro e w6 ⟨⟨v6, rfl, hE6⟩, hb6⟩); (have HE6 := Lib.hid hE6); (have HB6 := Lib.hid hb6); (clear hE6 hb6))
        go_ret
        obtain ⟨rfl, rfl⟩ := (by simpa only [Prod.mk.injEq] using HFIN.out : _ ∧ _)
        exact ⟨_, _, rfl, HE6.out, (HCW3.out.below HB6.out).fit HU.out (by omega) HB6.out.size, HBW3.out.same (Beside.of_below HB6.out)⟩
    · obtain rfl : k = N := by omega
      have hr := HRD.out
      rw [Nat.sub_self] at hr
      obtain ⟨rfl, rfl⟩ := (by simpa only [Ch.flushK, Prod.mk.injEq] using hr : _ ∧ _)
      clear hr
      go_wp2_with fail
      go_ret
      exact ⟨[], _, rfl, ErrIs.nil _ _ _, HCJ.out, HBJ.out⟩

set_option maxRecDepth 100000 in
set_option maxHeartbeats 2000000 in
theorem cforget_is {U : Nat → Prop} {w : World} {c dp rg rc n : Nat} {C : Ch.Cache} (h : CIn U w c dp rg rc C) (ho : Ch.Ok n C) :
    Calls Tryz.prog 70 #[.pointer (some ⟨c, 0, none⟩)] w fun e w' => (∃ v, e = .returned v) ∧ (∃ rg' rc', CIn (More U w w') w' c dp rg' rc' (Ch.forget C)) ∧ Beside U w w' := by
  obtain ⟨m0, m1, m2⟩ := h.box.three
  have f1 := h.box.free 1 _ rfl
  have f2 := h.box.free 2 _ rfl
  obtain ⟨N, hN⟩ : ∃ N, C.slots.length = N := ⟨_, rfl⟩
  have hlen := ho.len
  have hUc : U c := h.own.1
  have hcl := h.held c hUc
  have HC := Lib.hid h
  have HNN := Lib.hid hN
  rw [hN] at m1 hlen
  clear h ho hN
  go_enter Tryz.func70, Tryz.ntmps70
  go_upto_region 1 with fail
  go_wp2_with (at_make; refine wpList_make_row eCs eCs_ok (Ch.Slot.zero, none, 0) rfl rfl _ _ rfl N _ _ rfl rfl rfl rfl (by simp; omega) (by omega) w.heap.size rfl ?_)
  intro w1 ho hg
  have HO := Lib.hid ho
  have HG := Lib.hid hg
  have n1 := grown_cell hg m1 (by simp)
  have n2 := grown_cell hg m2 (by simp)
  have e1 := grown_frozen hg hcl f1 (by simp)
  have e2 := grown_frozen hg hcl f2 (by simp)
  clear ho hg m0 m1 m2 f1 f2
  go_wp2_with fail
  go_end0
  obtain ⟨F, M, xs, hp, hF, hM, hc1, hr1, hH⟩ := HC.out
  have hs1 := HG.out.size
  obtain ⟨hlt1, hlt2⟩ := HO.out.lt w.heap.size rfl
  have hgr : ∀ u v : Value, w1.grownBy ((w1.setCell ⟨c, 1, none⟩ u).setCell ⟨c, 2, none⟩ v) (some c) := fun u v => grownBy_set (grownBy_set (World.grownBy.refl _ _) 1 u) 2 v
  have hl : (Ch.forget C).slots.length = N := by unfold Ch.forget; simp [HNN.out]
  refine ⟨⟨_, rfl⟩, ⟨w.heap.size, N, F, fun _ => False, List.replicate N (Ch.Slot.zero, none, 0), ?_, fun k hk => .inl (hF k hk), fun k hk => hk.elim, .inl hc1, .inr ⟨Nat.le_refl _, by simp; omega⟩, More.held hH (by simp; omega)⟩, ?_⟩
  · refine ⟨?_, ?_, ?_, ?_, ?_, by omega, ⟨hp.noF.1, fun h => ?_⟩, ⟨id, id⟩, fun k hk => hk.elim, ?_, fun k hk => hk.elim⟩
    · rw [hl]
      have hb := ((hp.box.grownR HG.out (by simp)).put 1 (.slice (some ⟨w.heap.size, 0, none⟩) N N)).put 2 (.int .i64 0)
      exact hb
    · rw [hl]; exact (HO.out.keep (hgr _ _) hcl).mono (Nat.zero_le _)
    · unfold Ch.forget; simp [HNN.out]
    · intro i x hx
      rw [List.getElem?_replicate] at hx
      split at hx
      · cases hx
        exact ⟨⟨none, 0, rfl, Nat.le_refl _, Nat.zero_le _, .inl rfl⟩, .inl rfl⟩
      · cases hx
    · exact hp.disk.on fun k hk => ((hgr _ _).block k (Nat.lt_of_lt_of_le (hp.heldF k hk) hs1) (by intro e; cases e; exact hp.noF.1 hk)).trans (HG.out.block k (hp.heldF k hk) (by simp))
    · have := hp.heldF _ h; omega
    · exact hp.heldF.more (by simp; omega)
  · exact (Beside.of_grownO HG.out (by intro k hk; cases hk)).same (Beside.of_grown (hgr _ _) hUc)
end Go.Proofs.YtflbioiildndoaaGreatDoor
