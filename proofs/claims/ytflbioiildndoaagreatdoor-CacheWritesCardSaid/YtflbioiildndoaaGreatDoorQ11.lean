/- merged: RefC1, RefC2, RefC3 -/
import Derived.Test.YtflbioiildndoaaGreatDoorCacheA
import Derived.Test.YtflbioiildndoaaGreatDoorQ10
/- the document's caches in memory; At, empty -/
namespace Go.Proofs.YtflbioiildndoaaGreatDoor
open Go.RowKit
set_option linter.unusedVariables false
set_option linter.unusedSimpArgs false

abbrev eRs : Elem SlotX := ⟨27, 109, 8, 64, .agg #[.int .i64 0, .int .i64 0, .int .u64 0, .slice none 0 0, .bool false, .bool false, .bool false, .int .i64 0],
  fun x => [.int .i64 x.1.page.kind, .int .i64 x.1.page.id, .int .u64 (x.1.page.gen : Int), .slice x.2.1 x.1.page.body.length x.2.2, .bool x.1.full, .bool x.1.dirty, .bool x.1.used, .int .i64 x.1.pins]⟩
theorem infoRs : (Tryz.prog.info? 109).map (fun i => (i.zero, i.size, i.bytes)) = some (some (.agg #[.int .i64 0, .int .i64 0, .int .u64 0, .slice none 0 0, .bool false, .bool false, .bool false, .int .i64 0]), 8, 64) := by kernel_rfl
theorem eRs_ok : eRs.Ok where
  len _ := rfl
  one x u hu := by simp at hu; rcases hu with rfl | rfl | rfl | rfl | rfl | rfl | rfl | rfl <;> rfl
  und := Tryz.underlying27
  info := infoRs
  zs := rfl
/-- where the rows of a document's cache lie: slots, lasting blocks, what waits, what a crash keeps -/
structure Shp where
  sa : Option Addr
  sc : Nat
  la : Option Addr
  lc : Nat
  wa : Option Addr
  wc : Nat
  ka : Option Addr
  kc : Nat
def cellsC (C : Ch.Cache) (s : Shp) : List Value := [.slice s.sa C.slots.length s.sc, .int .i64 (C.hand : Int), .int .i64 (C.disk.blocks : Int), .int .i64 (C.disk.size : Int), .slice s.la C.disk.lasting.length s.lc, .slice s.wa C.disk.waiting.length s.wc, .bool C.disk.lit, .int .i64 C.disk.after, .int .i64 C.disk.torn, .int .i64 C.disk.cut, .slice s.ka C.disk.keep.length s.kc, .bool C.disk.off, .int .i64 C.disk.count]
def refCV (C : Ch.Cache) (s : Shp) : Value := .agg #[.slice s.sa C.slots.length s.sc, .int .i64 (C.hand : Int), .int .i64 (C.disk.blocks : Int), .int .i64 (C.disk.size : Int), .slice s.la C.disk.lasting.length s.lc, .slice s.wa C.disk.waiting.length s.wc, .bool C.disk.lit, .int .i64 C.disk.after, .int .i64 C.disk.torn, .int .i64 C.disk.cut, .slice s.ka C.disk.keep.length s.kc, .bool C.disk.off, .int .i64 C.disk.count]
def zeroC : List Value := [.slice none 0 0, .int .i64 0, .int .i64 0, .int .i64 0, .slice none 0 0, .slice none 0 0, .bool false, .int .i64 0, .int .i64 0, .int .i64 0, .slice none 0 0, .bool false, .int .i64 0]
def slotV (x : SlotX) : Value := .agg #[.int .i64 x.1.page.kind, .int .i64 x.1.page.id, .int .u64 (x.1.page.gen : Int), .slice x.2.1 x.1.page.body.length x.2.2, .bool x.1.full, .bool x.1.dirty, .bool x.1.used, .int .i64 x.1.pins]
theorem BoxAt.thirteen {w : World} {r : Nat} {v0 v1 v2 v3 v4 v5 v6 v7 v8 v9 v10 v11 v12 : Value} (h : BoxAt w r [v0, v1, v2, v3, v4, v5, v6, v7, v8, v9, v10, v11, v12]) :
    w.cell? ⟨r, 0, none⟩ = some v0 ∧ w.cell? ⟨r, 1, none⟩ = some v1 ∧ w.cell? ⟨r, 2, none⟩ = some v2 ∧ w.cell? ⟨r, 3, none⟩ = some v3 ∧ w.cell? ⟨r, 4, none⟩ = some v4 ∧ w.cell? ⟨r, 5, none⟩ = some v5 ∧ w.cell? ⟨r, 6, none⟩ = some v6 ∧ w.cell? ⟨r, 7, none⟩ = some v7 ∧ w.cell? ⟨r, 8, none⟩ = some v8 ∧ w.cell? ⟨r, 9, none⟩ = some v9 ∧ w.cell? ⟨r, 10, none⟩ = some v10 ∧ w.cell? ⟨r, 11, none⟩ = some v11 ∧ w.cell? ⟨r, 12, none⟩ = some v12 :=
  ⟨h.at 0 _ rfl, h.at 1 _ rfl, h.at 2 _ rfl, h.at 3 _ rfl, h.at 4 _ rfl, h.at 5 _ rfl, h.at 6 _ rfl, h.at 7 _ rfl, h.at 8 _ rfl, h.at 9 _ rfl, h.at 10 _ rfl, h.at 11 _ rfl, h.at 12 _ rfl⟩
theorem BoxAt.thirteenF {w : World} {r : Nat} {v0 v1 v2 v3 v4 v5 v6 v7 v8 v9 v10 v11 v12 : Value} (h : BoxAt w r [v0, v1, v2, v3, v4, v5, v6, v7, v8, v9, v10, v11, v12]) :
    w.frozen? ⟨r, 0, none⟩ = false ∧ w.frozen? ⟨r, 1, none⟩ = false ∧ w.frozen? ⟨r, 2, none⟩ = false ∧ w.frozen? ⟨r, 3, none⟩ = false ∧ w.frozen? ⟨r, 4, none⟩ = false ∧ w.frozen? ⟨r, 5, none⟩ = false ∧ w.frozen? ⟨r, 6, none⟩ = false ∧ w.frozen? ⟨r, 7, none⟩ = false ∧ w.frozen? ⟨r, 8, none⟩ = false ∧ w.frozen? ⟨r, 9, none⟩ = false ∧ w.frozen? ⟨r, 10, none⟩ = false ∧ w.frozen? ⟨r, 11, none⟩ = false ∧ w.frozen? ⟨r, 12, none⟩ = false :=
  ⟨h.free 0 _ rfl, h.free 1 _ rfl, h.free 2 _ rfl, h.free 3 _ rfl, h.free 4 _ rfl, h.free 5 _ rfl, h.free 6 _ rfl, h.free 7 _ rfl, h.free 8 _ rfl, h.free 9 _ rfl, h.free 10 _ rfl, h.free 11 _ rfl, h.free 12 _ rfl⟩
/-- a document's cache: its rows, and all that they name, lie in G -/
structure RefC (G : Nat → Prop) (w : World) (C : Ch.Cache) (s : Shp) : Prop where
  rows : ∃ ss : List SlotX, RowAt eRs w (.slice s.sa C.slots.length s.sc) ss ∧ ss.map (·.1) = C.slots ∧ ∀ (i : Nat) (x : SlotX), ss[i]? = some x → BytesAt w x.body x.1.page.body ∧ (x.1.page.body = [] ∨ InG G x.body)
  rowG : InG G (.slice s.sa C.slots.length s.sc)
  disk : ∃ xs ys, DiskR G w C.disk (.slice s.la C.disk.lasting.length s.lc) (.slice s.wa C.disk.waiting.length s.wc) (.slice s.ka C.disk.keep.length s.kc) xs ys
def RefCAt (G : Nat → Prop) (w : World) (v : Value) (C : Ch.Cache) : Prop := ∃ s, v = refCV C s ∧ RefC G w C s
section
variable {G : Nat → Prop} {w w' : World} {C : Ch.Cache} {s : Shp}
theorem RefC.on (h : RefC G w C s) (hb : ∀ k, G k → w'.heap[k]? = w.heap[k]?) : RefC G w' C s where
  rows := by
    obtain ⟨ss, h1, h2, h3⟩ := h.rows
    exact ⟨ss, h1.on fun k hk => hb k (h.rowG k hk), h2, fun i x hx => ⟨(h3 i x hx).1.onE (h3 i x hx).2 hb, (h3 i x hx).2⟩⟩
  rowG := h.rowG
  disk := by
    obtain ⟨xs, ys, h1⟩ := h.disk
    exact ⟨xs, ys, h1.on hb⟩
theorem RefC.mono {G' : Nat → Prop} (h : RefC G w C s) (hg : ∀ k, G k → G' k) : RefC G' w C s where
  rows := by
    obtain ⟨ss, h1, h2, h3⟩ := h.rows
    exact ⟨ss, h1, h2, fun i x hx => ⟨(h3 i x hx).1, (h3 i x hx).2.imp id fun h => h.mono hg⟩⟩
  rowG := h.rowG.mono hg
  disk := by
    obtain ⟨xs, ys, h1⟩ := h.disk
    exact ⟨xs, ys, h1.mono hg⟩
theorem RefC.below (h : RefC G w C s) (hG : Held G w) (hb : Below w.heap.size w w') : RefC G w' C s := h.on fun k hk => hb.block k (hG k hk)
/-- its disk, as a value -/
theorem RefC.diskAt (h : RefC G w C s) : RefAt G w (refD C.disk (.slice s.la C.disk.lasting.length s.lc) (.slice s.wa C.disk.waiting.length s.wc) (.slice s.ka C.disk.keep.length s.kc)) C.disk := by
  obtain ⟨xs, ys, h1⟩ := h.disk
  exact ⟨_, _, _, xs, ys, rfl, h1⟩
/-- another disk -/
theorem RefC.newDisk {G2 : Nat → Prop} (h : RefC G w C s) {D : Bk.Disk} {v : Value} (hb : ∀ k, G k → w'.heap[k]? = w.heap[k]?) (hg : ∀ k, G k → G2 k) (hd : RefAt G2 w' v D) :
    ∃ la lc wa wc ka kc, v = refD D (.slice la D.lasting.length lc) (.slice wa D.waiting.length wc) (.slice ka D.keep.length kc) ∧ RefC G2 w' { C with disk := D } ⟨s.sa, s.sc, la, lc, wa, wc, ka, kc⟩ := by
  obtain ⟨lv, wv, kv, xs, ys, rfl, h1⟩ := hd
  obtain ⟨la, lc, wa, wc, ka, kc, rfl, rfl, rfl⟩ := h1.shape
  have h2 := (h.on hb).mono hg
  refine ⟨la, lc, wa, wc, ka, kc, by rw [h1.xlen, h1.ylen], h2.rows, h2.rowG, xs, ys, ?_⟩
  rw [h1.xlen, h1.ylen] at h1
  exact h1
/-- the cells of a slot -/
theorem RefC.slotAt (h : RefC G w C s) {i : Nat} (hi : i < C.slots.length) : ∃ b o ba bc, s.sa = some ⟨b, o, none⟩ ∧ w.cell? ⟨b, o + i * 8, none⟩ = some (.int .i64 (Ch.slot C i).page.kind) ∧ w.cell? ⟨b, o + i * 8 + 1, none⟩ = some (.int .i64 (Ch.slot C i).page.id) ∧ w.cell? ⟨b, o + i * 8 + 2, none⟩ = some (.int .u64 ((Ch.slot C i).page.gen : Int)) ∧ w.cell? ⟨b, o + i * 8 + 3, none⟩ = some (.slice ba (Ch.slot C i).page.body.length bc) ∧
    w.cell? ⟨b, o + i * 8 + 4, none⟩ = some (.bool (Ch.slot C i).full) ∧ w.cell? ⟨b, o + i * 8 + 5, none⟩ = some (.bool (Ch.slot C i).dirty) ∧ w.cell? ⟨b, o + i * 8 + 6, none⟩ = some (.bool (Ch.slot C i).used) ∧ w.cell? ⟨b, o + i * 8 + 7, none⟩ = some (.int .i64 (Ch.slot C i).pins) ∧
    BytesAt w (.slice ba (Ch.slot C i).page.body.length bc) (Ch.slot C i).page.body ∧ ((Ch.slot C i).page.body = [] ∨ InG G (.slice ba (Ch.slot C i).page.body.length bc)) := by
  obtain ⟨ss, h1, h2, h3⟩ := h.rows
  have hl : ss.length = C.slots.length := by rw [← h2]; simp
  obtain ⟨x, hx⟩ := getElem?_some_of_lt (l := ss) (k := i) (by omega)
  have hxs : x.1 = Ch.slot C i := by
    have e1 : C.slots[i]? = some x.1 := by rw [← h2, List.getElem?_map, hx]; rfl
    rw [Ch.slot_at hi] at e1
    exact (Option.some.inj e1).symm
  obtain ⟨a, c, hv, g1, g2, g3⟩ := h1
  rcases g3 with g3 | ⟨b, o, rfl, g3⟩
  · rw [g3] at hl; simp at hl; omega
  · have hsa : s.sa = some ⟨b, o, none⟩ := by injection hv
    have hc := g3 i x hx
    obtain ⟨k1, k2⟩ := h3 i x hx
    rw [← hxs]
    refine ⟨b, o, x.2.1, x.2.2, hsa, ?_, hc 1 _ rfl, hc 2 _ rfl, hc 3 _ rfl, hc 4 _ rfl, hc 5 _ rfl, hc 6 _ rfl, hc 7 _ rfl, k1, k2⟩
    have := hc 0 _ rfl
    simpa using this
/-- a cache that is handed back -/
theorem RefC.fin {G2 : Nat → Prop} {V W : World} {rb : Nat} (h : RefC G2 V C s) (hG2 : ∀ k, G2 k → (G k ∨ w.heap.size ≤ k) ∧ k < V.heap.size ∧ k ≠ rb) (hrw : w.heap.size ≤ rb) (hb : Below w.heap.size w V) (hg : V.grownBy W (some rb)) : RefC (More G w W) W C s ∧ Below w.heap.size w W := by
  have hb2 : Below w.heap.size w W := hb.trans (below_of_grown hg hrw hb.size)
  refine ⟨(h.on fun k hk => hg.block k (hG2 k hk).2.1 (by intro e; cases e; exact (hG2 _ hk).2.2 rfl)).mono fun k hk => ?_, hb2⟩
  obtain ⟨g1, g2, _⟩ := hG2 k hk
  rcases g1 with g1 | g1
  · exact .inl g1
  · exact .inr ⟨g1, Nat.lt_of_lt_of_le g2 hg.size⟩
end
theorem grown13 (w : World) (r : Nat) (v0 v1 v2 v3 v4 v5 v6 v7 v8 v9 v10 v11 v12 : Value) : w.grownBy (((((((((((((w.setCell ⟨r, 0, none⟩ v0).setCell ⟨r, 1, none⟩ v1).setCell ⟨r, 2, none⟩ v2).setCell ⟨r, 3, none⟩ v3).setCell ⟨r, 4, none⟩ v4).setCell ⟨r, 5, none⟩ v5).setCell ⟨r, 6, none⟩ v6).setCell ⟨r, 7, none⟩ v7).setCell ⟨r, 8, none⟩ v8).setCell ⟨r, 9, none⟩ v9).setCell ⟨r, 10, none⟩ v10).setCell ⟨r, 11, none⟩ v11).setCell ⟨r, 12, none⟩ v12) (some r) := by
  repeat (first | refine grownBy_set ?_ _ _ | exact World.grownBy.refl _ _)
/-- a box of thirteen cells that is stored anew -/
theorem BoxAt.fill13 {w : World} {r : Nat} {a0 a1 a2 a3 a4 a5 a6 a7 a8 a9 a10 a11 a12 : Value} (h : BoxAt w r [a0, a1, a2, a3, a4, a5, a6, a7, a8, a9, a10, a11, a12]) (v0 v1 v2 v3 v4 v5 v6 v7 v8 v9 v10 v11 v12 : Value) : BoxAt (((((((((((((w.setCell ⟨r, 0, none⟩ v0).setCell ⟨r, 1, none⟩ v1).setCell ⟨r, 2, none⟩ v2).setCell ⟨r, 3, none⟩ v3).setCell ⟨r, 4, none⟩ v4).setCell ⟨r, 5, none⟩ v5).setCell ⟨r, 6, none⟩ v6).setCell ⟨r, 7, none⟩ v7).setCell ⟨r, 8, none⟩ v8).setCell ⟨r, 9, none⟩ v9).setCell ⟨r, 10, none⟩ v10).setCell ⟨r, 11, none⟩ v11).setCell ⟨r, 12, none⟩ v12) r [v0, v1, v2, v3, v4, v5, v6, v7, v8, v9, v10, v11, v12] :=
  ((((((((((((h.put 0 v0).put 1 v1).put 2 v2).put 3 v3).put 4 v4).put 5 v5).put 6 v6).put 7 v7).put 8 v8).put 9 v9).put 10 v10).put 11 v11).put 12 v12

set_option maxRecDepth 100000 in
set_option maxHeartbeats 2000000 in
theorem refCat_is {G : Nat → Prop} {w : World} {C : Ch.Cache} {s : Shp} (h : RefC G w C s) (hG : Held G w) (hl : C.slots.length ≤ 64) (id : Int) (r : Int) (hr : Ch.at_ C id = r) :
    Calls Tryz.prog 59 #[refCV C s, .int .i64 id] w fun e w' => e = .returned (.int .i64 r) ∧ Below w.heap.size w w' := by
  obtain ⟨N, hN⟩ : ∃ N, C.slots.length = N := ⟨_, rfl⟩
  have H := Lib.hid h
  have HG := Lib.hid hG
  have HN := Lib.hid hN
  have HR := Lib.hid hr
  obtain ⟨sa, sc, la, lc, wa, wc, ka, kc⟩ := s
  unfold refCV
  rw [hN] at hl ⊢
  clear h hG hN hr
  go_enter Tryz.func59, Tryz.ntmps59
  go_upto_region 1 with fail
  refine wp_name fun W hW => ?_
  have HX := Lib.hid (show BoxAt W w.heap.size [.slice sa N sc, .int .i64 (C.hand : Int), .int .i64 (C.disk.blocks : Int), .int .i64 (C.disk.size : Int), .slice la C.disk.lasting.length lc, .slice wa C.disk.waiting.length wc, .bool C.disk.lit, .int .i64 C.disk.after, .int .i64 C.disk.torn, .int .i64 C.disk.cut, .slice ka C.disk.keep.length kc, .bool C.disk.off, .int .i64 C.disk.count] by rw [hW]; exact BoxAt.new w [_, _, _, _, _, _, _, _, _, _, _, _, _] _)
  have HB := Lib.hid (show Below w.heap.size w W by rw [hW]; exact (Below.refl _ _).alloc (Nat.le_refl _) _)
  clear hW
  have HW := Lib.hid (H.out.below HG.out HB.out)
  have x0 := HX.out.at 0 _ rfl
  go_wp2_with fail
  go_loopw [5] (fun i wx => ∃ k : Nat, k ≤ N ∧ i = .int .i64 k ∧ Ch.firstK (Ch.has id) C k (N - k) = r ∧ wx = W) (fun i _ => N - (intOf i).toNat)
  case atStart => exact ⟨0, by omega, rfl, by rw [← HR.out, ← HN.out]; rfl, rfl⟩
  case round =>
    obtain ⟨k, hk, rfl, hf, rfl⟩ := hrel
    have HF := Lib.hid hf
    clear hf
    by_cases hlt : k < N
    · obtain ⟨b, o, ba, bc, rfl, e0, e1, e2, e3, e4, e5, e6, e7, -, -⟩ := HW.out.slotAt (i := k) (by rw [HN.out]; exact hlt)
      have HST := Lib.hid (Ch.firstK_step (Ch.has id) C k (by rw [HN.out]; exact hlt))
      rw [HN.out] at HST
      have hlt1 : (k : Int) < (N : Int) := by omega
      generalize Ch.slot C k = x at *
      obtain ⟨page, full, dirty, used, pins⟩ := x
      simp only at e0 e1 e2 e3 e4 e5 e6 e7
      cases full with
      | false =>
        go_wp2_with fail
        go_roundw
        case rel => exact ⟨k + 1, by omega, by go_num, by rw [← HF.out, HST.out]; simp [Ch.has], by first | rfl | trivial⟩
        case measure => simp [intOf]; omega
      | true =>
        by_cases hid : page.id = id
        · have hib : (page.id == id) = true := by simp [hid]
          go_wp2_with fail
          go_ret
          exact ⟨by rw [← HF.out, HST.out]; simp [Ch.has, hid], HB.out⟩
        · have hib : (page.id == id) = false := by simp [hid]
          go_wp2_with fail
          go_roundw
          case rel => exact ⟨k + 1, by omega, by go_num, by rw [← HF.out, HST.out]; simp [Ch.has, hid], by first | rfl | trivial⟩
          case measure => simp [intOf]; omega
    · obtain rfl : k = N := by omega
      have he : r = -1 := by rw [← HF.out, Nat.sub_self]; rfl
      go_wp2_with fail
      go_ret
      exact ⟨by rw [he]; rfl, HB.out⟩
set_option maxRecDepth 100000 in
set_option maxHeartbeats 2000000 in
theorem refCempty_is {G : Nat → Prop} {w : World} {C : Ch.Cache} {s : Shp} (h : RefC G w C s) (hG : Held G w) (hl : C.slots.length ≤ 64) (r : Int) (hr : Ch.empty C = r) :
    Calls Tryz.prog 84 #[refCV C s] w fun e w' => e = .returned (.int .i64 r) ∧ Below w.heap.size w w' := by
  obtain ⟨N, hN⟩ : ∃ N, C.slots.length = N := ⟨_, rfl⟩
  have H := Lib.hid h
  have HG := Lib.hid hG
  have HN := Lib.hid hN
  have HR := Lib.hid hr
  obtain ⟨sa, sc, la, lc, wa, wc, ka, kc⟩ := s
  unfold refCV
  rw [hN] at hl ⊢
  clear h hG hN hr
  go_enter Tryz.func84, Tryz.ntmps84
  go_upto_region 1 with fail
  refine wp_name fun W hW => ?_
  have HX := Lib.hid (show BoxAt W w.heap.size [.slice sa N sc, .int .i64 (C.hand : Int), .int .i64 (C.disk.blocks : Int), .int .i64 (C.disk.size : Int), .slice la C.disk.lasting.length lc, .slice wa C.disk.waiting.length wc, .bool C.disk.lit, .int .i64 C.disk.after, .int .i64 C.disk.torn, .int .i64 C.disk.cut, .slice ka C.disk.keep.length kc, .bool C.disk.off, .int .i64 C.disk.count] by rw [hW]; exact BoxAt.new w [_, _, _, _, _, _, _, _, _, _, _, _, _] _)
  have HB := Lib.hid (show Below w.heap.size w W by rw [hW]; exact (Below.refl _ _).alloc (Nat.le_refl _) _)
  clear hW
  have HW := Lib.hid (H.out.below HG.out HB.out)
  have x0 := HX.out.at 0 _ rfl
  go_wp2_with fail
  go_loopw [3] (fun i wx => ∃ k : Nat, k ≤ N ∧ i = .int .i64 k ∧ Ch.firstK (fun s => !s.full) C k (N - k) = r ∧ wx = W) (fun i _ => N - (intOf i).toNat)
  case atStart => exact ⟨0, by omega, rfl, by rw [← HR.out, ← HN.out]; rfl, rfl⟩
  case round =>
    obtain ⟨k, hk, rfl, hf, rfl⟩ := hrel
    have HF := Lib.hid hf
    clear hf
    by_cases hlt : k < N
    · obtain ⟨b, o, ba, bc, rfl, e0, e1, e2, e3, e4, e5, e6, e7, -, -⟩ := HW.out.slotAt (i := k) (by rw [HN.out]; exact hlt)
      have HST := Lib.hid (Ch.firstK_step (fun s => !s.full) C k (by rw [HN.out]; exact hlt))
      rw [HN.out] at HST
      have hlt1 : (k : Int) < (N : Int) := by omega
      generalize Ch.slot C k = x at *
      obtain ⟨page, full, dirty, used, pins⟩ := x
      simp only at e0 e1 e2 e3 e4 e5 e6 e7
      cases full with
      | true =>
        go_wp2_with fail
        go_roundw
        case rel => exact ⟨k + 1, by omega, by go_num, by rw [← HF.out, HST.out]; rfl, by first | rfl | trivial⟩
        case measure => simp [intOf]; omega
      | false =>
        go_wp2_with fail
        go_ret
        exact ⟨by rw [← HF.out, HST.out]; rfl, HB.out⟩
    · obtain rfl : k = N := by omega
      have he : r = -1 := by rw [← HF.out, Nat.sub_self]; rfl
      go_wp2_with fail
      go_ret
      exact ⟨by rw [he]; rfl, HB.out⟩
end Go.Proofs.YtflbioiildndoaaGreatDoor

/- the document's caches: Set -/
namespace Go.Proofs.YtflbioiildndoaaGreatDoor
open Go.RowKit
set_option linter.unusedVariables false
set_option linter.unusedSimpArgs false

theorem fill8_rowR {w : World} {rg n rc i base : Nat} {xs : List SlotX} {x : SlotX} (h : OwnR eRs w base (.slice (some ⟨rg, 0, none⟩) n rc) xs) (hx : xs[i]? = some x) (y : SlotX) : OwnR eRs (fill8 w rg i y) base (.slice (some ⟨rg, 0, none⟩) n rc) (xs.set i y) := by
  obtain ⟨⟨⟨k, d, g, b⟩, f, dt, us, pn⟩, ba, bc⟩ := x
  obtain ⟨⟨⟨k', d', g', b'⟩, f', dt', us', pn'⟩, ba', bc'⟩ := y
  have hl : i < xs.length := (List.getElem?_eq_some_iff.1 hx).1
  have hat : ∀ (ys : List SlotX) (z : SlotX), i < ys.length → (ys.set i z)[i]? = some z := fun ys z hz => by simp [hz]
  have s0 := OwnR.set eRs_ok h hx (j := 0) (y := (⟨⟨k', d, g, b⟩, f, dt, us, pn⟩, ba, bc)) (u := .int .i64 k') (by decide) rfl
  have s1 := OwnR.set eRs_ok s0 (hat _ _ hl) (j := 1) (y := (⟨⟨k', d', g, b⟩, f, dt, us, pn⟩, ba, bc)) (u := .int .i64 d') (by decide) rfl
  have s2 := OwnR.set eRs_ok s1 (hat _ _ (by simpa using hl)) (j := 2) (y := (⟨⟨k', d', g', b⟩, f, dt, us, pn⟩, ba, bc)) (u := .int .u64 (g' : Int)) (by decide) rfl
  have s3 := OwnR.set eRs_ok s2 (hat _ _ (by simpa using hl)) (j := 3) (y := (⟨⟨k', d', g', b'⟩, f, dt, us, pn⟩, ba', bc')) (u := .slice ba' b'.length bc') (by decide) rfl
  have s4 := OwnR.set eRs_ok s3 (hat _ _ (by simpa using hl)) (j := 4) (y := (⟨⟨k', d', g', b'⟩, f', dt, us, pn⟩, ba', bc')) (u := .bool f') (by decide) rfl
  have s5 := OwnR.set eRs_ok s4 (hat _ _ (by simpa using hl)) (j := 5) (y := (⟨⟨k', d', g', b'⟩, f', dt', us, pn⟩, ba', bc')) (u := .bool dt') (by decide) rfl
  have s6 := OwnR.set eRs_ok s5 (hat _ _ (by simpa using hl)) (j := 6) (y := (⟨⟨k', d', g', b'⟩, f', dt', us', pn⟩, ba', bc')) (u := .bool us') (by decide) rfl
  have s7 := OwnR.set eRs_ok s6 (hat _ _ (by simpa using hl)) (j := 7) (y := (⟨⟨k', d', g', b'⟩, f', dt', us', pn'⟩, ba', bc')) (u := .int .i64 pn') (by decide) rfl
  simp only [List.set_set] at s7
  exact s7
/-- what a call of the document's leaves: a cache -/
def GivesC (G : Nat → Prop) (w : World) (C : Ch.Cache) (e : Ending) (w' : World) : Prop := (∃ s, e = .returned (refCV C s) ∧ RefC (More G w w') w' C s) ∧ Below w.heap.size w w'
theorem BoxAt.eightF {w : World} {r : Nat} {v0 v1 v2 v3 v4 v5 v6 v7 : Value} (h : BoxAt w r [v0, v1, v2, v3, v4, v5, v6, v7]) :
    w.frozen? ⟨r, 0, none⟩ = false ∧ w.frozen? ⟨r, 1, none⟩ = false ∧ w.frozen? ⟨r, 2, none⟩ = false ∧ w.frozen? ⟨r, 3, none⟩ = false ∧ w.frozen? ⟨r, 4, none⟩ = false ∧ w.frozen? ⟨r, 5, none⟩ = false ∧ w.frozen? ⟨r, 6, none⟩ = false ∧ w.frozen? ⟨r, 7, none⟩ = false :=
  ⟨h.free 0 _ rfl, h.free 1 _ rfl, h.free 2 _ rfl, h.free 3 _ rfl, h.free 4 _ rfl, h.free 5 _ rfl, h.free 6 _ rfl, h.free 7 _ rfl⟩

set_option maxRecDepth 100000 in
set_option maxHeartbeats 4000000 in
theorem refCset_is {G : Nat → Prop} {w : World} {C : Ch.Cache} {s : Shp} (h : RefC G w C s) (hG : Held G w) (hl : C.slots.length ≤ 64) (i : Nat) (hi : i < C.slots.length) (x : SlotX) (hb : BytesAt w x.body x.1.page.body) (hx : x.1.page.body = [] ∨ InG G x.body) :
    Calls Tryz.prog 61 #[refCV C s, .int .i64 (i : Int), slotV x] w (GivesC G w (Ch.set C i x.1)) := by
  obtain ⟨ss, hrow, hmap, heach⟩ := h.rows
  have hN : ss.length = C.slots.length := by rw [← hmap]; simp
  have H := Lib.hid h
  have HG := Lib.hid hG
  have HROW := Lib.hid hrow
  have HMAP := Lib.hid hmap
  have HEA := Lib.hid heach
  have HBX := Lib.hid hb
  have HXG := Lib.hid hx
  obtain ⟨sa, sc, la, lc, wa, wc, ka, kc⟩ := s
  obtain ⟨⟨⟨pk, pid, pg, pb⟩, f, dt, us, pn⟩, ba, bc⟩ := x
  unfold refCV slotV
  rw [← hN] at hl hi HROW
  have HN := Lib.hid hN
  rw [← hN]
  simp only
  have hi0 : (0 : Int) ≤ (i : Int) := by omega
  have hi1 : (i : Int) < (ss.length : Int) := by omega
  clear h hG hrow hmap heach hb hx hN
  go_enter Tryz.func61, Tryz.ntmps61
  go_upto_region 1 with fail
  obtain ⟨nb, hnb⟩ : ∃ nb, w.heap.size = nb := ⟨_, rfl⟩
  refine wp_name fun W hW => ?_
  have HX := Lib.hid (show BoxAt W nb [.slice sa ss.length sc, .int .i64 (C.hand : Int), .int .i64 (C.disk.blocks : Int), .int .i64 (C.disk.size : Int), .slice la C.disk.lasting.length lc, .slice wa C.disk.waiting.length wc, .bool C.disk.lit, .int .i64 C.disk.after, .int .i64 C.disk.torn, .int .i64 C.disk.cut, .slice ka C.disk.keep.length kc, .bool C.disk.off, .int .i64 C.disk.count] by rw [hW]; exact ((BoxAt.newAt _ _ hnb [_, _, _, _, _, _, _, _, _, _, _, _, _] _).alloc _).alloc _)
  have HS := Lib.hid (show BoxAt W (nb + 1) [.int .i64 pk, .int .i64 pid, .int .u64 (pg : Int), .slice ba pb.length bc, .bool f, .bool dt, .bool us, .int .i64 pn] by rw [hW]; exact (BoxAt.newAt _ _ (by simp [hnb]) [_, _, _, _, _, _, _, _] _).alloc _)
  have HY := Lib.hid (show BoxAt W (nb + 1 + 1) zeroC by rw [hW]; exact BoxAt.newAt _ _ (by simp [hnb]) [_, _, _, _, _, _, _, _, _, _, _, _, _] _)
  have HB := Lib.hid (show Below w.heap.size w W by rw [hW]; go_grown)
  have HNB := Lib.hid hnb
  have hW2 : nb + 1 + 1 < W.heap.size := HY.out.lt
  clear hW
  rw [hnb]
  clear hnb
  have HRW := Lib.hid (HROW.out.below HB.out)
  have x0 : (W.alloc (.cells #[] 109)).cell? ⟨nb, 0, none⟩ = some (.slice sa ss.length sc) := (HX.out.alloc _).at 0 _ rfl
  go_upto_region 2 with (at_builtin; (refine wpList_append_row eRs eRs_ok rfl (.tmp 8) (.tmp 10) rfl W.heap.size _ [] rfl (OwnR.empty W _ (Nat.le_refl _)) _ ss rfl (HRW.out.alloc _) (by simp; omega) (by simp; omega) (by simp) ?_))
  intro v1 w1 ho hg hn
  have hbel := ((Below.refl W.heap.size W).alloc (Nat.le_refl _) (.cells #[] 109)).grown hg (by simp) (by intro k hk; simp [Value.ownBlock] at hk; omega)
  rcases ho.row with ⟨rfl, e0⟩ | ⟨g, cap, rfl, hg1, hg2, hg3, hg4⟩
  · rw [e0] at hi; simp at hi
  unfold maxLen at hg4
  obtain ⟨y, hy⟩ := getElem?_some_of_lt (l := ss) hi
  have hc := fun (j : Nat) (u : Value) (hu : (eRs.enc y)[j]? = some u) => OwnR.cell eRs_ok ho hy hu
  obtain ⟨e0, e1, e2, e3, e4, e5, e6, e7⟩ : w1.cell? ⟨g, i * 8, none⟩ = some (.int .i64 y.1.page.kind) ∧ w1.cell? ⟨g, i * 8 + 1, none⟩ = some (.int .i64 y.1.page.id) ∧ w1.cell? ⟨g, i * 8 + 2, none⟩ = some (.int .u64 (y.1.page.gen : Int)) ∧ w1.cell? ⟨g, i * 8 + 3, none⟩ = some (.slice y.2.1 y.1.page.body.length y.2.2) ∧
      w1.cell? ⟨g, i * 8 + 4, none⟩ = some (.bool y.1.full) ∧ w1.cell? ⟨g, i * 8 + 5, none⟩ = some (.bool y.1.dirty) ∧ w1.cell? ⟨g, i * 8 + 6, none⟩ = some (.bool y.1.used) ∧ w1.cell? ⟨g, i * 8 + 7, none⟩ = some (.int .i64 y.1.pins) := ⟨hc 0 _ rfl, hc 1 _ rfl, hc 2 _ rfl, hc 3 _ rfl, hc 4 _ rfl, hc 5 _ rfl, hc 6 _ rfl, hc 7 _ rfl⟩
  have hfr := ho.free
  obtain ⟨f0, f1, f2, f3, f4, f5, f6, f7⟩ := (⟨hfr (i * 8), hfr (i * 8 + 1), hfr (i * 8 + 2), hfr (i * 8 + 3), hfr (i * 8 + 4), hfr (i * 8 + 5), hfr (i * 8 + 6), hfr (i * 8 + 7)⟩ : _ ∧ _ ∧ _ ∧ _ ∧ _ ∧ _ ∧ _ ∧ _)
  have HO3 := Lib.hid (fill8_rowR ho hy (⟨⟨pk, pid, pg, pb⟩, f, dt, us, pn⟩, ba, bc))
  have HG3 := Lib.hid (fill8_grown w1 g i (⟨⟨pk, pid, pg, pb⟩, f, dt, us, pn⟩, ba, bc))
  have HB1 := Lib.hid hbel
  have HS1 := Lib.hid (HS.out.below hbel)
  have HX1 := Lib.hid (HX.out.below hbel)
  have HY1 := Lib.hid (HY.out.below hbel)
  obtain ⟨z0, z1, z2, z3, z4, z5, z6, z7⟩ := HS1.out.eight
  clear ho hg hn hbel hc hfr x0 hy
  go_upto_region 3 with fail
  refine wp_name fun V hV => ?_
  have HBV := Lib.hid (show Below W.heap.size W V by rw [hV]; exact HB1.out.trans (below_of_grown HG3.out hg1 HB1.out.size))
  have HOV := Lib.hid (show OwnR eRs V W.heap.size (.slice (some ⟨g, 0, none⟩) ss.length cap) (ss.set i (⟨⟨pk, pid, pg, pb⟩, f, dt, us, pn⟩, ba, bc)) by rw [hV]; exact HO3.out)
  clear hV e0 e1 e2 e3 e4 e5 e6 e7 f0 f1 f2 f3 f4 f5 f6 f7 z0 z1 z2 z3 z4 z5 z6 z7 HO3 HG3
  have HXV := Lib.hid (HX.out.below HBV.out)
  have HYV := Lib.hid (HY.out.below HBV.out)
  obtain ⟨x0, x1, x2, x3, x4, x5, x6, x7, x8, x9, x10, x11, x12⟩ := HXV.out.thirteen
  obtain ⟨y0, y1, y2, y3, y4, y5, y6, y7, y8, y9, y10, y11, y12⟩ := HYV.out.thirteen
  obtain ⟨f0, f1, f2, f3, f4, f5, f6, f7, f8, f9, f10, f11, f12⟩ := HYV.out.thirteenF
  go_wp2_with fail
  refine bodyPost_ret (v := refCV (Ch.set C i ⟨⟨pk, pid, pg, pb⟩, f, dt, us, pn⟩) ⟨some ⟨g, 0, none⟩, cap, la, lc, wa, wc, ka, kc⟩) (by simp [results, Tryz.results61, go_sem, refCV, Ch.set, HN.out, y0, y1, y2, y3, y4, y5, y6, y7, y8, y9, y10, y11, y12]) rfl ?_
  have hs := HB.out.size
  have hsV := HBV.out.size
  have hwn := HNB.out
  have hHV : Below w.heap.size w V := below_step HB.out HBV.out
  have hgV : g < V.heap.size := (HOV.out.lt g rfl).2
  refine ⟨⟨_, rfl, ?_⟩, (RefC.fin (G2 := fun k => G k ∨ k = g) (C := C) (s := ⟨sa, sc, la, lc, wa, wc, ka, kc⟩) (G := G) ((H.out.below HG.out hHV).mono fun k hk => .inl hk) (fun k hk => ?_) (by omega) hHV (grown13 V (nb + 1 + 1) _ _ _ _ _ _ _ _ _ _ _ _ _)).2⟩
  · refine (RefC.fin (G2 := fun k => G k ∨ k = g) (V := V) (rb := nb + 1 + 1) ?_ (fun k hk => ?_) (by omega) hHV (grown13 V (nb + 1 + 1) _ _ _ _ _ _ _ _ _ _ _ _ _)).1
    · have hR := H.out.below HG.out hHV
      refine ⟨⟨ss.set i (⟨⟨pk, pid, pg, pb⟩, f, dt, us, pn⟩, ba, bc), ?_, ?_, fun j z hz => ?_⟩, fun k hk => .inr (Option.some.inj hk).symm, ?_⟩
      · have := HOV.out.at eRs_ok
        simpa [Ch.set, ← HN.out] using this
      · rw [List.map_set, HMAP.out]; rfl
      · rw [List.getElem?_set] at hz
        split at hz
        · cases hz
          exact ⟨HBX.out.below hHV, HXG.out.imp id fun q => q.mono fun k hk => .inl hk⟩
        · obtain ⟨q1, q2⟩ := HEA.out j z hz
          exact ⟨q1.below hHV, q2.imp id fun q => q.mono fun k hk => .inl hk⟩
      · obtain ⟨xs, ys, hd⟩ := hR.disk
        exact ⟨xs, ys, hd.mono fun k hk => .inl hk⟩
    · rcases hk with hk | rfl
      · have := HG.out k hk
        exact ⟨.inl hk, by omega, by omega⟩
      · exact ⟨.inr (by omega), hgV, by omega⟩
  · rcases hk with hk | rfl
    · have := HG.out k hk
      exact ⟨.inl hk, by omega, by omega⟩
    · exact ⟨.inr (by omega), hgV, by omega⟩
end Go.Proofs.YtflbioiildndoaaGreatDoor

/- the document's caches: Held, Dirty, New -/
namespace Go.Proofs.YtflbioiildndoaaGreatDoor
open Go.RowKit
set_option linter.unusedVariables false
set_option linter.unusedSimpArgs false

set_option maxRecDepth 100000 in
set_option maxHeartbeats 2000000 in
theorem refCdirty_is {G : Nat → Prop} {w : World} {C : Ch.Cache} {s : Shp} (h : RefC G w C s) (hG : Held G w) (hl : C.slots.length ≤ 64) (n : Nat) (hn : Ch.dirty C = n) :
    Calls Tryz.prog 23 #[refCV C s] w fun e w' => e = .returned (.int .i64 (n : Int)) ∧ Below w.heap.size w w' := by
  obtain ⟨N, hN⟩ : ∃ N, C.slots.length = N := ⟨_, rfl⟩
  have hend : Ch.dirtyK C N = n := by rw [← hn, ← hN]; unfold Ch.dirtyK; rw [List.take_length]; rfl
  have H := Lib.hid h
  have HG := Lib.hid hG
  have HN := Lib.hid hN
  have HEND := Lib.hid hend
  obtain ⟨sa, sc, la, lc, wa, wc, ka, kc⟩ := s
  unfold refCV
  rw [hN] at hl ⊢
  clear h hG hN hn hend
  go_enter Tryz.func23, Tryz.ntmps23
  go_upto_region 1 with fail
  refine wp_name fun W hW => ?_
  have HX := Lib.hid (show BoxAt W w.heap.size [.slice sa N sc, .int .i64 (C.hand : Int), .int .i64 (C.disk.blocks : Int), .int .i64 (C.disk.size : Int), .slice la C.disk.lasting.length lc, .slice wa C.disk.waiting.length wc, .bool C.disk.lit, .int .i64 C.disk.after, .int .i64 C.disk.torn, .int .i64 C.disk.cut, .slice ka C.disk.keep.length kc, .bool C.disk.off, .int .i64 C.disk.count] by rw [hW]; exact BoxAt.new w [_, _, _, _, _, _, _, _, _, _, _, _, _] _)
  have HB := Lib.hid (show Below w.heap.size w W by rw [hW]; exact (Below.refl _ _).alloc (Nat.le_refl _) _)
  clear hW
  have HW := Lib.hid (H.out.below HG.out HB.out)
  have x0 := HX.out.at 0 _ rfl
  go_wp2_with fail
  go_loopw [3, 4] (fun v i wx => ∃ k : Nat, k ≤ N ∧ i = .int .i64 k ∧ v = .int .i64 (Ch.dirtyK C k : Int) ∧ wx = W) (fun _ i _ => N - (intOf i).toNat)
  case atStart => exact ⟨0, by omega, rfl, rfl, rfl⟩
  case round =>
    obtain ⟨k, hk, rfl, rfl, rfl⟩ := hrel
    have hdk := Ch.dirtyK_le C k
    obtain ⟨q, hq⟩ : ∃ q, Ch.dirtyK C k = q := ⟨_, rfl⟩
    rw [hq] at hdk ⊢
    have HQ := Lib.hid hq
    clear hq
    by_cases hlt : k < N
    · obtain ⟨b, o, ba, bc, rfl, e0, e1, e2, e3, e4, e5, e6, e7, -, -⟩ := HW.out.slotAt (i := k) (by rw [HN.out]; exact hlt)
      have HST := Lib.hid (Ch.dirtyK_step C (k := k) (by rw [HN.out]; exact hlt))
      have hlt1 : (k : Int) < (N : Int) := by omega
      have hw : IntKind.i64.wrap ((q : Int) + 1) = (q : Int) + 1 := IntWalk.i64_in _ (by omega)
      generalize Ch.slot C k = x at *
      obtain ⟨page, full, dirty, used, pins⟩ := x
      simp only at e0 e1 e2 e3 e4 e5 e6 e7
      cases dirty with
      | false =>
        go_wp2_with fail
        go_roundw
        case rel => exact ⟨k + 1, by omega, by go_num, by rw [HST.out, HQ.out]; rfl, by first | rfl | trivial⟩
        case measure => simp [intOf]; omega
      | true =>
        go_wp2_with fail
        go_roundw
        case rel => exact ⟨k + 1, by omega, by go_num, by rw [HST.out, HQ.out]; simp, by first | rfl | trivial⟩
        case measure => simp [intOf]; omega
    · obtain rfl : k = N := by omega
      go_wp2_with fail
      go_ret
      obtain rfl : n = q := HEND.out.symm.trans HQ.out
      exact ⟨rfl, HB.out⟩

set_option maxRecDepth 100000 in
set_option maxHeartbeats 2000000 in
theorem refCheld_is {G : Nat → Prop} {w : World} {C : Ch.Cache} {s : Shp} (h : RefC G w C s) (hG : Held G w) (hl : C.slots.length ≤ 64) (L : List Int) (hL : Ch.held C = L) :
    Calls Tryz.prog 21 #[refCV C s] w fun e w' => (∃ a cc, e = .returned (.slice a L.length cc) ∧ OwnI w' w.heap.size (.slice a L.length cc) L) ∧ Below w.heap.size w w' := by
  obtain ⟨N, hN⟩ : ∃ N, C.slots.length = N := ⟨_, rfl⟩
  have hend : Ch.heldK C N = L := by rw [← hL, ← hN]; unfold Ch.heldK; rw [List.take_length]; rfl
  have H := Lib.hid h
  have HG := Lib.hid hG
  have HN := Lib.hid hN
  have HEND := Lib.hid hend
  obtain ⟨sa, sc, la, lc, wa, wc, ka, kc⟩ := s
  unfold refCV
  rw [hN] at hl ⊢
  clear h hG hN hL hend
  go_enter Tryz.func21, Tryz.ntmps21
  go_upto_region 2 with fail
  obtain ⟨nb, hnb⟩ : ∃ nb, w.heap.size = nb := ⟨_, rfl⟩
  refine wp_name fun W hW => ?_
  have HX := Lib.hid (show BoxAt W nb [.slice sa N sc, .int .i64 (C.hand : Int), .int .i64 (C.disk.blocks : Int), .int .i64 (C.disk.size : Int), .slice la C.disk.lasting.length lc, .slice wa C.disk.waiting.length wc, .bool C.disk.lit, .int .i64 C.disk.after, .int .i64 C.disk.torn, .int .i64 C.disk.cut, .slice ka C.disk.keep.length kc, .bool C.disk.off, .int .i64 C.disk.count] by rw [hW]; exact (BoxAt.newAt _ _ hnb [_, _, _, _, _, _, _, _, _, _, _, _, _] _).alloc _)
  have HO := Lib.hid (show OwnI W (nb + 1) (.slice (some ⟨nb + 1, 0, none⟩) 0 0) [] by
    rw [hW]
    have := OwnI.empty (w.alloc (.cells #[.slice sa N sc, .int .i64 (C.hand : Int), .int .i64 (C.disk.blocks : Int), .int .i64 (C.disk.size : Int), .slice la C.disk.lasting.length lc, .slice wa C.disk.waiting.length wc, .bool C.disk.lit, .int .i64 C.disk.after, .int .i64 C.disk.torn, .int .i64 C.disk.cut, .slice ka C.disk.keep.length kc, .bool C.disk.off, .int .i64 C.disk.count] 38)) (nb + 1) (by simp; omega)
    simpa [hnb] using this)
  have HB := Lib.hid (show Below w.heap.size w W by rw [hW]; go_grown)
  have HNB := Lib.hid hnb
  have hsW : nb + 1 < W.heap.size := (HO.out.lt _ rfl).2
  clear hW
  rw [hnb]
  clear hnb
  have HW := Lib.hid (H.out.below HG.out HB.out)
  have HGW := Lib.hid (show Held G W from fun k hk => Nat.lt_of_lt_of_le (HG.out k hk) HB.out.size)
  go_wp2_with fail
  go_loopw [3, 4] (fun v i wr => ∃ k : Nat, k ≤ N ∧ i = .int .i64 k ∧ OwnI wr (nb + 1) v (Ch.heldK C k) ∧ Below (nb + 1) W wr) (fun _ i _ => N - (intOf i).toNat)
  case atStart => exact ⟨0, by omega, rfl, HO.out, Below.refl _ _⟩
  case round =>
    obtain ⟨k, hk, rfl, ho, hbr⟩ := hrel
    have HOR := Lib.hid ho
    have HBR := Lib.hid hbr
    have hdk := Ch.heldK_le C k
    have hbs : W.heap.size ≤ wr.heap.size := hbr.size
    clear hbr ho
    have HXR := Lib.hid (HX.out.belowB HBR.out (Nat.lt_succ_self _))
    have HCR := Lib.hid (HW.out.on (w' := wr) fun j hj => HBR.out.block j (by have := HG.out j hj; have := HNB.out; omega))
    have x0 := HXR.out.at 0 _ rfl
    by_cases hlt : k < N
    · obtain ⟨b, o, ba, bc, rfl, e0, e1, e2, e3, e4, e5, e6, e7, -, -⟩ := HCR.out.slotAt (i := k) (by rw [HN.out]; exact hlt)
      have HST := Lib.hid (Ch.heldK_step C (k := k) (by rw [HN.out]; exact hlt))
      have hlt1 : (k : Int) < (N : Int) := by omega
      generalize Ch.slot C k = x at *
      obtain ⟨page, full, dirty, used, pins⟩ := x
      simp only at e0 e1 e2 e3 e4 e5 e6 e7
      cases full with
      | false =>
        go_wp2_with fail
        go_roundw
        case rel => exact ⟨k + 1, by omega, by go_num, by rw [HST.out]; simpa using HOR.out, HBR.out⟩
        case measure => simp [intOf]; omega
      | true =>
        have hll : (Ch.heldK C k).length + [page.id].length ≤ 17592186044416 := by simp; omega
        obtain ⟨M, hM⟩ : ∃ M, Ch.heldK C k = M := ⟨_, rfl⟩
        rw [hM] at HOR hll HST
        clear hM hdk
        go_wp2_with (at_builtin; refine wpList_append_ints rfl (.tmp 19) (.tmp 27) rfl (nb + 1) _ M rfl (HOR.out.alloc _) _ [page.id] rfl (one_intAt _ _ _ _ (by simp)) hll (by simp; omega) ?_)
        intro v2 w2 hown hgrow hnn
        have HOW := Lib.hid hown
        have HB2 := Lib.hid ((HBR.out.alloc (by omega) _).grown hgrow (by simp; omega) (fun j hj => (HOR.out.lt j hj).1))
        clear hown hgrow hnn
        go_wp2_with fail
        go_roundw
        case rel => exact ⟨k + 1, by omega, by go_num, by rw [HST.out]; exact HOW.out, HB2.out⟩
        case measure => simp [intOf]; omega
    · obtain rfl : k = N := by omega
      have HO2 := Lib.hid (show OwnI _ _ _ L from HEND.out ▸ HOR.out)
      obtain ⟨a, cc, rfl, -, -⟩ := HO2.out.slice
      go_wp2_with fail
      go_ret
      have hwn := HNB.out
      exact ⟨⟨_, _, rfl, HO2.out.mono (by omega)⟩, HB.out.trans (HBR.out.mono (by omega))⟩

theorem made_all {α : Type} (E : Elem α) (hE : E.Ok) (z : α) (hzr : E.zero.cells.toList = E.enc z) (n : Nat) : (madeCells E.zero.cells (n * E.size)).toList = E.all (List.replicate n z) := by
  apply List.ext_getElem?
  intro j
  have hlen : (E.all (List.replicate n z)).length = n * E.size := by rw [Elem.all_length hE, List.length_replicate]
  by_cases hj : j < n * E.size
  · have hpos : 0 < E.size := by
      rcases Nat.eq_zero_or_pos E.size with h0 | h0
      · rw [h0] at hj; omega
      · exact h0
    have hm : j % E.size < (E.enc z).length := by rw [hE.len]; exact Nat.mod_lt _ hpos
    have hk : j / E.size < n := Nat.div_lt_of_lt_mul (by rw [Nat.mul_comm]; exact hj)
    have h3 := Elem.all_at hE (l := List.replicate n z) (k := j / E.size) (x := z) (by rw [List.getElem?_replicate, if_pos hk]) (List.getElem?_eq_getElem hm)
    rw [show j / E.size * E.size + j % E.size = j by rw [Nat.mul_comm]; exact Nat.div_add_mod j E.size] at h3
    rw [h3]
    have hsz : E.zero.cells.size = E.size := hE.zs
    have h4 : E.zero.cells[j % E.size]? = (E.enc z)[j % E.size]? := by rw [← hzr, Array.getElem?_toList]
    rw [List.getElem?_eq_getElem hm] at h4
    have h5 : E.zero.cells[j % E.size]! = (E.enc z)[j % E.size] := by
      rw [Array.getElem!_eq_getD, Array.getD_eq_getD_getElem?, h4]
      rfl
    simp [madeCells, hj, hsz, h5]
  · rw [List.getElem?_eq_none (by simp [madeCells]; omega), List.getElem?_eq_none (by omega)]
theorem step_make_row8 {o : Oper} {a : Act} {w : World} {K : Act → World → Prop} {Q : Exit → Act → World → Prop} (l c : Operand) (hop : o.op = Op.makeSlice eRs.sl l c)
    (n : Nat) (hl : a.eval l = .int .i64 (n : Int)) (hc : a.eval c = .int .i64 (n : Int)) (hb : n ≤ 1000)
    (h : ∀ w', OwnR eRs w' w.heap.size (.slice (some ⟨w.heap.size, 0, none⟩) n n) (List.replicate n (Ch.Slot.zero, none, 0)) → w.grownBy w' none → K (a.put o.dst (.slice (some ⟨w.heap.size, 0, none⟩) n n)) w') : o.wp Tryz.prog a w K Q := by
  obtain ⟨i0, hi, hz0, hz1, hz2⟩ := info_parts eRs_ok.info
  obtain ⟨w', hrun, r1, r2⟩ := run_make_full (P := Tryz.prog) w w.heap.size eRs.sl eRs.el i0 eRs.zero eRs.size eRs_ok.und hi hz0 hz1 .i64 .i64 n (by rw [hz2]; show 64 * n ≤ _; omega) (by unfold maxLen; omega) (Nat.le_refl _)
  unfold Oper.wp
  simp [execOp, hop, hl, hc, hrun, Result.andThen]
  refine h w' ?_ r2
  unfold OwnR
  rw [made_all eRs eRs_ok (Ch.Slot.zero, none, 0) rfl n] at r1
  rw [List.length_replicate]
  exact r1
set_option maxRecDepth 100000 in
set_option maxHeartbeats 2000000 in
theorem refCnew_is {G : Nat → Prop} {w : World} {d : Bk.Disk} {v : Value} (hr : RefAt G w v d) (hG : Held G w) (n : Nat) (hn : n ≤ 64) :
    Calls Tryz.prog 32 #[v, .int .i64 (n : Int)] w (GivesC G w (Ch.new d n)) := by
  obtain ⟨lv, wv, kv, xs, ys, rfl, h⟩ := hr
  obtain ⟨la, lc, wa, wc, ka, kc, rfl, rfl, rfl⟩ := h.shape
  have H := Lib.hid h
  have HG := Lib.hid hG
  unfold refD
  clear h hG
  go_enter Tryz.func32, Tryz.ntmps32
  go_upto_region 1 with fail
  obtain ⟨nb, hnb⟩ : ∃ nb, w.heap.size = nb := ⟨_, rfl⟩
  refine wp_name fun W hW => ?_
  have HX := Lib.hid (show BoxAt W nb [.int .i64 (d.blocks : Int), .int .i64 (d.size : Int), .slice la xs.length lc, .slice wa ys.length wc, .bool d.lit, .int .i64 d.after, .int .i64 d.torn, .int .i64 d.cut, .slice ka d.keep.length kc, .bool d.off, .int .i64 d.count] by rw [hW]; exact (BoxAt.newAt _ _ hnb [_, _, _, _, _, _, _, _, _, _, _] _).alloc _)
  have HY := Lib.hid (show BoxAt W (nb + 1) zeroC by rw [hW]; exact BoxAt.newAt _ _ (by simp [hnb]) [_, _, _, _, _, _, _, _, _, _, _, _, _] _)
  have HB := Lib.hid (show Below w.heap.size w W by rw [hW]; go_grown)
  have HNB := Lib.hid hnb
  have hW2 : nb + 1 < W.heap.size := HY.out.lt
  clear hW
  rw [hnb]
  clear hnb
  obtain ⟨x0, x1, x2, x3, x4, x5, x6, x7, x8, x9, x10⟩ := HX.out.eleven
  have q0 := Near.cell (w := W.drew) (row := none) (show W.drew.cell? ⟨nb, 0, none⟩ = _ from x0) (by simp)
  have q1 := Near.cell (w := W.drew) (row := none) (show W.drew.cell? ⟨nb, 1, none⟩ = _ from x1) (by simp)
  have q2 := Near.cell (w := W.drew) (row := none) (show W.drew.cell? ⟨nb, 2, none⟩ = _ from x2) (by simp)
  have q3 := Near.cell (w := W.drew) (row := none) (show W.drew.cell? ⟨nb, 3, none⟩ = _ from x3) (by simp)
  have q4 := Near.cell (w := W.drew) (row := none) (show W.drew.cell? ⟨nb, 4, none⟩ = _ from x4) (by simp)
  have q5 := Near.cell (w := W.drew) (row := none) (show W.drew.cell? ⟨nb, 5, none⟩ = _ from x5) (by simp)
  have q6 := Near.cell (w := W.drew) (row := none) (show W.drew.cell? ⟨nb, 6, none⟩ = _ from x6) (by simp)
  have q7 := Near.cell (w := W.drew) (row := none) (show W.drew.cell? ⟨nb, 7, none⟩ = _ from x7) (by simp)
  have q8 := Near.cell (w := W.drew) (row := none) (show W.drew.cell? ⟨nb, 8, none⟩ = _ from x8) (by simp)
  have q9 := Near.cell (w := W.drew) (row := none) (show W.drew.cell? ⟨nb, 9, none⟩ = _ from x9) (by simp)
  have q10 := Near.cell (w := W.drew) (row := none) (show W.drew.cell? ⟨nb, 10, none⟩ = _ from x10) (by simp)
  refine wp_region_mix (fun w' => ∃ x : Near W.drew none, w' = x.world) [4] 5 (by kernel_rfl) rfl ?_
  refine mix_reads_lit [0, 2] 3 (by kernel_rfl) (by kernel_rfl) (by kernel_rfl) (by kernel_rfl) rfl (NearC.of (World.grownBy.refl _ _)) ?_
  simp only [pick, List.filterMap_cons, List.filterMap_nil, List.getElem?_cons_succ, List.getElem?_cons_zero]
  repeat (first | go_big_quiet_step (fail) | quiet_step (fail))
  refine wpQuiet_nil ?_
  clear q0 q1 q2 q3 q4 q5 q6 q7 q8 q9 q10 x0 x1 x2 x3 x4 x5 x6 x7 x8 x9 x10
  refine mix_deed_lit 1 2 (by kernel_rfl) (by kernel_rfl) rfl (fun K hK => ?_)
  simp only [comesUp, List.getElem?_cons_succ, List.getElem?_cons_zero]
  refine if_mk rfl ?_
  refine step_make_row8 (.tmp 5) (.tmp 5) rfl n rfl rfl (by omega) fun w1 ho hg => ?_
  have b1 : Below W.heap.size W w1 := below_step (Below.refl _ _).drew ((Below.refl W.drew.heap.size W.drew).grown hg (Nat.le_refl _) (by intro k hk; cases hk))
  have HO1 := Lib.hid (show OwnR eRs w1 W.heap.size (.slice (some ⟨W.heap.size, 0, none⟩) n n) (List.replicate n (Ch.Slot.zero, none, 0)) from ho)
  have HB1 := Lib.hid b1
  refine hK _ _ (fun _ _ => NearC.of hg) ?_
  clear hK K
  refine mix_reads_lit [3] 1 (by kernel_rfl) (by kernel_rfl) (by kernel_rfl) (by kernel_rfl) rfl (NearC.of hg) ?_
  simp only [pick, List.filterMap_cons, List.filterMap_nil, List.getElem?_cons_succ, List.getElem?_cons_zero]
  repeat (first | go_big_quiet_step (fail) | quiet_step (fail))
  refine wpQuiet_nil ?_
  have HY1 := Lib.hid (HY.out.below b1)
  clear ho hg b1
  obtain ⟨y0, y1, y2, y3, y4, y5, y6, y7, y8, y9, y10, y11, y12⟩ := HY1.out.thirteen
  obtain ⟨f0, f1, f2, f3, f4, f5, f6, f7, f8, f9, f10, f11, f12⟩ := HY1.out.thirteenF
  refine mix_deed_lit 4 0 (by kernel_rfl) (by kernel_rfl) rfl (fun K hK => ?_)
  simp only [comesUp, List.getElem?_cons_succ, List.getElem?_cons_zero]
  refine if_mk rfl ?_
  go_simp
  refine hK _ _ (fun h => by simp [keeps] at h) ?_
  clear hK K y0 y1 y2 y3 y4 y5 y6 y7 y8 y9 y10 y11 y12 f0 f1 f2 f3 f4 f5 f6 f7 f8 f9 f10 f11 f12
  refine mix_done_lit (by kernel_rfl) ?_
  refine q_name fun Z hZ => ?_
  have hf := HY1.out.fill13 (.slice (some ⟨W.heap.size, 0, none⟩) n n) (.int .i64 0) (.int .i64 (d.blocks : Int)) (.int .i64 (d.size : Int)) (.slice la xs.length lc) (.slice wa ys.length wc) (.bool d.lit) (.int .i64 d.after) (.int .i64 d.torn) (.int .i64 d.cut) (.slice ka d.keep.length kc) (.bool d.off) (.int .i64 d.count)
  have hgz := grown13 w1 (nb + 1) (.slice (some ⟨W.heap.size, 0, none⟩) n n) (.int .i64 0) (.int .i64 (d.blocks : Int)) (.int .i64 (d.size : Int)) (.slice la xs.length lc) (.slice wa ys.length wc) (.bool d.lit) (.int .i64 d.after) (.int .i64 d.torn) (.int .i64 d.cut) (.slice ka d.keep.length kc) (.bool d.off) (.int .i64 d.count)
  rw [← hZ] at hf hgz
  have HGZ := Lib.hid hgz
  obtain ⟨z0, z1, z2, z3, z4, z5, z6, z7, z8, z9, z10, z11, z12⟩ := hf.thirteen
  clear hZ hf hgz
  go_wp2_with fail
  refine bodyPost_ret (v := refCV (Ch.new d n) ⟨some ⟨W.heap.size, 0, none⟩, n, la, lc, wa, wc, ka, kc⟩) (by simp [results, Tryz.results32, go_sem, refCV, Ch.new, ← H.out.xlen, ← H.out.ylen, z0, z1, z2, z3, z4, z5, z6, z7, z8, z9, z10, z11, z12]) rfl ?_
  have hs := HB.out.size
  have hs1 := HB1.out.size
  have hwn := HNB.out
  have hb1 : Below w.heap.size w w1 := below_step HB.out HB1.out
  have hlt := (HO1.out.lt _ rfl).2
  have hfin := RefC.fin (G := G) (G2 := fun k => G k ∨ k = W.heap.size) (w := w) (V := w1) (W := Z) (rb := nb + 1) (C := Ch.new d n) (s := ⟨some ⟨W.heap.size, 0, none⟩, n, la, lc, wa, wc, ka, kc⟩) ?_ (fun k hk => ?_) (by omega) hb1 HGZ.out
  · exact ⟨⟨_, rfl, hfin.1⟩, hfin.2⟩
  · refine ⟨⟨List.replicate n (Ch.Slot.zero, none, 0), ?_, ?_, fun i x hx => ?_⟩, fun k hk => .inr (Option.some.inj hk).symm, xs, ys, ?_⟩
    · have := HO1.out.at eRs_ok
      simpa [Ch.new] using this
    · simp [Ch.new]
    · rw [List.getElem?_replicate] at hx
      split at hx
      · cases hx
        exact ⟨⟨none, 0, rfl, Nat.le_refl _, Nat.zero_le _, .inl rfl⟩, .inl rfl⟩
      · cases hx
    · have h1 := (H.out.on (w' := w1) fun k hk => hb1.block k (HG.out k hk)).mono (G' := fun k => G k ∨ k = W.heap.size) fun k hk => .inl hk
      have e1 : (Ch.new d n).disk.lasting.length = xs.length := h1.xlen.symm
      have e2 : (Ch.new d n).disk.waiting.length = ys.length := h1.ylen.symm
      simp only [e1, e2]
      exact h1
  · rcases hk with hk | rfl
    · have := HG.out k hk
      exact ⟨.inl hk, by omega, by omega⟩
    · exact ⟨.inr (by omega), hlt, by omega⟩
end Go.Proofs.YtflbioiildndoaaGreatDoor
