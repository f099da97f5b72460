/- what an argument reads as: a call of a disk, a row of calls, two numbers, a row of bools -/
import Derived.Test.YtflbioiildndoaaDoorOpenBlk
import Derived.Test.YtflbioiildndoaaDoorBlkPlay
namespace Go.Proofs.YtflbioiildndoaaDoor
open Go.Joins Go.ChangeShapes Go.WideShapes Go.ChangeAt Go.RowKit Go.Deep

theorem cellsOfBool4 : Tryd.prog.cellsOf 4 = 1 := by kernel_rfl
theorem bytesOfBool4 : Tryd.prog.bytesOf 4 = 1 := by kernel_rfl
theorem cellsOfAct4 : Tryd.prog.cellsOf 63 = 8 := by kernel_rfl
theorem cellsOfInt4 : Tryd.prog.cellsOf 3 = 1 := by kernel_rfl
theorem cellsOfU8 : Tryd.prog.cellsOf 5 = 1 := by kernel_rfl
theorem cellsOfU32 : Tryd.prog.cellsOf 56 = 1 := by kernel_rfl
theorem cellsOfBools : Tryd.prog.cellsOf 38 = 1 := by kernel_rfl
instance : Inhabited BAct := ⟨⟨0, 0, 0, false, none, [], 0, 0, 0, 0⟩⟩
/-- how a row of bools stands in its datum -/
def KeepD {H : Type} (l : List Bool) (d : DataW H) : Prop := l = [] ∨ ∃ el sp, d = .slice el sp ∧ l.length = el.length
theorem part_bools {H : Type} {enc : TypeId × Value → H} {W : World} {n : Nat} {v : Value} {y : DataW H × List MemPlace}
    (hf : DataW.trod enc Tryd.prog W 0 (fun _ => true) true n 38 [v] = some y) :
    ∃ l a c, v = .slice a l.length c ∧ RowAt eBool W v l ∧ KeepD l y.1 := by
  rcases open_slice Tryd.underlying38 hf with ⟨hcs, hx⟩ | ⟨x, len, c, m, n, D, Pl, hcs, _, hl, hm, hmm, hx, hcell⟩
  · simp only [List.cons.injEq, and_true] at hcs
    subst hcs
    exact ⟨[], none, 0, rfl, RowAt.nil _ W, .inl rfl⟩
  · simp only [List.cons.injEq, and_true] at hcs
    subst hcs
    have each : ∀ i, i < len → ∃ e : Bool, W.cell? (x.add i) = some (.bool e) := by
      intro i hi
      obtain ⟨cs', h1, h2⟩ := hcell i (by rw [hmm]; split <;> omega)
      obtain ⟨b, hb, _⟩ := DataW.trod_bool Tryd.underlying4 h2
      subst hb
      rw [cellsOfBool4] at h1
      obtain ⟨_, hlen, hc⟩ := World.cells?_some h1
      have := hc 0 (by decide)
      simp only [Nat.mul_one] at this
      exact ⟨b, by simpa [Addr.add] using this⟩
    obtain ⟨q, hq⟩ := choose_lt each
    refine ⟨(List.range len).map q, some x, c, by simp, ⟨x, c, by simp, by simpa using hl, hm, ?_⟩, .inr ⟨_, _, by rw [hx], by simp⟩⟩
    by_cases h0 : len = 0
    · subst h0; exact .inl (by simp)
    · right
      obtain ⟨b, off, spot⟩ := x
      have hspot : spot = none := by simpa [Addr.add] using World.cell?_spot (hq 0 (by omega))
      subst hspot
      refine ⟨b, off, rfl, fun i y hy j u hu => ?_⟩
      have hj : j = 0 := by have := (List.getElem?_eq_some_iff.1 hu).1; simp at this; omega
      subst hj
      have hi : i < len := by have := (List.getElem?_eq_some_iff.1 hy).1; simpa using this
      have hyq : y = q i := by rw [List.getElem?_map, List.getElem?_range hi] at hy; simpa using hy.symm
      subst hyq
      have hu' : u = .bool (q i) := by simpa using hu.symm
      subst hu'
      have := hq i hi
      rw [add_plain] at this
      simpa using this
set_option maxRecDepth 100000 in
theorem part_act {H : Type} {enc : TypeId × Value → H} {W : World} {n : Nat} {cs : List Value} {y : DataW H × List MemPlace}
    (hf : DataW.trod enc Tryd.prog W 0 (fun _ => true) true n 63 cs = some y) :
    ∃ a : BAct, cs = a.cells ∧ RowAt eBool W (.slice a.ka a.keep.length a.kc) a.keep ∧ ∃ d0 d1 d2 d3 d4 d5 d6 d7, y.1 = .agg [d0, d1, d2, d3, d4, d5, d6, d7] ∧ KeepD a.keep d4 := by
  obtain ⟨xs, n, _, hx, hl, hlen, hg⟩ := DataW.trod_struct Tryd.underlying63 hf
  rw [cellsOfAct4] at hl
  match xs, hlen, cs, hl with
  | [y0, y1, y2, y3, y4, y5, y6, y7], _, [c0, c1, c2, c3, c4, c5, c6, c7], _ =>
    have t0 : DataW.trod enc Tryd.prog W 0 (fun _ => true) true n 3 [c0] = some y0 := by simpa [cellsOfInt4] using hg 0 _ rfl
    have t1 : DataW.trod enc Tryd.prog W 0 (fun _ => true) true n 3 [c1] = some y1 := by simpa [cellsOfInt4] using hg 1 _ rfl
    have t2 : DataW.trod enc Tryd.prog W 0 (fun _ => true) true n 5 [c2] = some y2 := by simpa [cellsOfU8] using hg 2 _ rfl
    have t3 : DataW.trod enc Tryd.prog W 0 (fun _ => true) true n 4 [c3] = some y3 := by simpa [cellsOfBool4] using hg 3 _ rfl
    have t4 : DataW.trod enc Tryd.prog W 0 (fun _ => true) true n 38 [c4] = some y4 := by simpa [cellsOfBools] using hg 4 _ rfl
    have t5 : DataW.trod enc Tryd.prog W 0 (fun _ => true) true n 3 [c5] = some y5 := by simpa [cellsOfInt4] using hg 5 _ rfl
    have t6 : DataW.trod enc Tryd.prog W 0 (fun _ => true) true n 3 [c6] = some y6 := by simpa [cellsOfInt4] using hg 6 _ rfl
    have t7 : DataW.trod enc Tryd.prog W 0 (fun _ => true) true n 56 [c7] = some y7 := by simpa [cellsOfU32] using hg 7 _ rfl
    obtain ⟨a0, e0, _, _⟩ := DataW.trod_int Tryd.underlying3 t0
    obtain ⟨a1, e1, _, _⟩ := DataW.trod_int Tryd.underlying3 t1
    obtain ⟨a2, e2, hw2, hx2⟩ := DataW.trod_int Tryd.underlying5 t2
    obtain ⟨a3, e3, _⟩ := DataW.trod_bool Tryd.underlying4 t3
    obtain ⟨l, ka, kc, rfl, hrow, hk⟩ := part_bools t4
    obtain ⟨a5, e5, _, _⟩ := DataW.trod_int Tryd.underlying3 t5
    obtain ⟨a6, e6, _, _⟩ := DataW.trod_int Tryd.underlying3 t6
    obtain ⟨a7, e7, hw7, hx7⟩ := DataW.trod_int Tryd.underlying56 t7
    simp only [List.cons.injEq, and_true] at e0 e1 e2 e3 e5 e6 e7
    subst e0 e1 e2 e3 e5 e6 e7
    obtain ⟨m, rfl⟩ := u32_bv hx7
    obtain ⟨f, hf8⟩ := bytes_of_ints [a2] (fun z hz => by simp only [List.mem_singleton] at hz; subst hz; exact hx2)
    obtain ⟨x, hx1⟩ : ∃ x : UInt8, a2 = (x.toNat : Int) := by
      cases f with
      | nil => simp at hf8
      | cons x r => simp at hf8; exact ⟨x, hf8.1⟩
    subst hx1
    exact ⟨⟨a0, a1, x, a3, ka, l, kc, a5, a6, m⟩, rfl, hrow, _, _, _, _, _, _, _, _, by rw [hx]; rfl, hk⟩
theorem mem_weightsAll {H : Type} {P : Program} {e : TypeId} : ∀ {ds : List (DataW H)} {d : DataW H}, d ∈ ds → ∀ n ∈ d.weights P e, n ∈ DataW.weightsAll P e ds
  | d0 :: ds, d, hd, n, hn => by
    simp only [DataW.weightsAll, List.mem_append]
    rcases List.mem_cons.1 hd with rfl | hd
    · exact .inl hn
    · exact .inr (mem_weightsAll hd n hn)
theorem keep_weight {H : Type} {l : List Bool} {d0 d1 d2 d3 d4 d5 d6 d7 : DataW H} {S : List Nat} (hS : ∀ n ∈ (DataW.agg [d0, d1, d2, d3, d4, d5, d6, d7]).weights Tryd.prog 63, n ∈ S) (hsz : S.all (· ≤ reachBytes) = true) (hk : KeepD l d4) : l.length ≤ 140737488351232 := by
  rcases hk with rfl | ⟨el, sp, rfl, hl⟩
  · simp
  · have hm := hS ((el.length + sp.length) * 1) (by
      simp [DataW.weights, DataW.weightsEach, Tryd.underlying63, Tryd.underlying38, bytesOfBool4])
    have hle : (el.length + sp.length) * 1 ≤ 140737488351232 := of_decide_eq_true (List.all_eq_true.1 hsz _ hm)
    omega
theorem keep_held {W : World} {l : List Bool} {a : Option Addr} {c : Nat} (h : RowAt eBool W (.slice a l.length c) l) : l = [] ∨ ∀ k, (Value.slice a l.length c).ownBlock = some k → k < W.heap.size := h.held fun x => by simp
set_option maxRecDepth 100000 in
theorem open_acts04 {H : Type} {enc : TypeId × Value → H} {W : World} {base : Nat} {v : Value} {d : DataW H} {p : List MemPlace} {ts : List TypeId} {ds : List (DataW H)} (hsz : (DataW.weightsEach Tryd.prog ts ds).all (· ≤ reachBytes) = true) {j : Nat} (ht : ts[j]? = some 37) (hd : ds[j]? = some d)
    (hv : Value.okWide Tryd.prog W .any base 37 v) (h : DataW.Trod enc Tryd.prog W 0 (fun _ => true) true 37 v d p) :
    ∃ l, Acts W.heap.size W v l := by
  obtain ⟨aa, len, cap, rfl⟩ := okWide_slice Tryd.underlying37 hv
  obtain ⟨fuel, hf⟩ := h
  rcases open_slice Tryd.underlying37 hf with ⟨hcs, hx⟩ | ⟨x, len', c, m, n, D, Pl, hcs, _, hl, hm, hmm, hx, hcell⟩
  · simp only [Value.cells] at hcs
    obtain ⟨rfl, rfl, rfl⟩ : aa = none ∧ len = 0 ∧ cap = 0 := by simpa using hcs
    exact ⟨[], RowAt.nil _ W, fun i a ha => by simp at ha⟩
  · simp only [Value.cells] at hcs
    obtain ⟨rfl, rfl, rfl⟩ : aa = some x ∧ len = len' ∧ cap = c := by simpa using hcs
    have hx1 : d = .slice ((List.range len).map D) ((List.range (m - len)).map fun j => D (len + j)) := (Prod.mk.inj hx).1
    have each : ∀ i, i < len → ∃ e : BAct, (∀ (j : Nat) u, (eBA.enc e)[j]? = some u → W.cell? (x.add (i * 8 + j)) = some u) ∧ RowAt eBool W (.slice e.ka e.keep.length e.kc) e.keep ∧ e.keep.length ≤ 140737488351232 := by
      intro i hi
      obtain ⟨cs', h1, h2⟩ := hcell i (by rw [hmm]; split <;> omega)
      obtain ⟨e, rfl, hrow, d0, d1, d2, d3, d4, d5, d6, d7, hd8, hk⟩ := part_act h2
      rw [cellsOfAct4] at h1
      obtain ⟨_, hlen, hc⟩ := World.cells?_some h1
      refine ⟨e, fun j u hu => ?_, hrow, ?_⟩
      · have hj : j < 8 := by have := (List.getElem?_eq_some_iff.1 hu).1; simpa [BAct.cells] using this
        have := hc j hj
        rw [add_add] at this
        rw [this]
        exact hu
      · refine keep_weight (d0 := d0) (d1 := d1) (d2 := d2) (d3 := d3) (d4 := d4) (d5 := d5) (d6 := d6) (d7 := d7) (S := DataW.weightsEach Tryd.prog ts ds) (fun n hn => ?_) hsz hk
        refine DataW.weights_mem_each ht hd n ?_
        rw [hx1]
        simp only [DataW.weights, Tryd.underlying37, List.mem_cons, List.mem_append]
        refine .inr (.inl (mem_weightsAll (d := D i) (List.mem_map_of_mem (List.mem_range.2 hi)) n ?_))
        have hd9 : D i = .agg [d0, d1, d2, d3, d4, d5, d6, d7] := hd8
        rw [hd9]
        exact hn
    obtain ⟨q, hq⟩ := choose_lt each
    refine ⟨(List.range len).map q, ⟨some x, cap, by simp, by simpa using hl, hm, ?_⟩, fun i a ha => ?_⟩
    · by_cases h0 : len = 0
      · subst h0; exact .inl (by simp)
      · right
        obtain ⟨b, off, spot⟩ := x
        have hspot : spot = none := by simpa [Addr.add] using World.cell?_spot ((hq 0 (by omega)).1 0 _ rfl)
        subst hspot
        refine ⟨b, off, rfl, fun i y hy j u hu => ?_⟩
        have hi : i < len := by have := (List.getElem?_eq_some_iff.1 hy).1; simpa using this
        have hyq : y = q i := by rw [List.getElem?_map, List.getElem?_range hi] at hy; simpa using hy.symm
        subst hyq
        have := (hq i hi).1 j u hu
        rw [add_plain] at this
        exact this
    · have hi : i < len := by have := (List.getElem?_eq_some_iff.1 ha).1; simpa using this
      have hyq : a = q i := by rw [List.getElem?_map, List.getElem?_range hi] at ha; simpa using ha.symm
      subst hyq
      obtain ⟨_, h1, h2⟩ := hq i hi
      exact ⟨h1, keep_held h1, by omega⟩
set_option maxRecDepth 100000 in
theorem open_act04 {H : Type} {enc : TypeId × Value → H} {W : World} {base : Nat} {v : Value} {d : DataW H} {p : List MemPlace} {ts : List TypeId} {ds : List (DataW H)} (hsz : (DataW.weightsEach Tryd.prog ts ds).all (· ≤ reachBytes) = true) {j : Nat} (ht : ts[j]? = some 63) (hd : ds[j]? = some d)
    (hv : Value.okWide Tryd.prog W .any base 63 v) (h : DataW.Trod enc Tryd.prog W 0 (fun _ => true) true 63 v d p) :
    ∃ a : BAct, v = .agg a.cells.toArray ∧ RowAt eBool W (.slice a.ka a.keep.length a.kc) a.keep ∧ a.keep.length ≤ 140737488355328 := by
  obtain ⟨cs, rfl, hsz2⟩ := okWide_struct Tryd.underlying63 hv
  obtain ⟨l⟩ := cs
  obtain ⟨fuel, hf⟩ := h
  obtain ⟨a, ha, hrow, d0, d1, d2, d3, d4, d5, d6, d7, hd8, hk⟩ := part_act hf
  have hl : l = a.cells := by simpa [Value.cells] using ha
  subst hl
  refine ⟨a, rfl, hrow, ?_⟩
  have := keep_weight (d0 := d0) (d1 := d1) (d2 := d2) (d3 := d3) (d4 := d4) (d5 := d5) (d6 := d6) (d7 := d7) (S := DataW.weightsEach Tryd.prog ts ds) (fun n hn => DataW.weights_mem_each ht hd n (by
    have hd9 : d = .agg [d0, d1, d2, d3, d4, d5, d6, d7] := hd8
    rw [hd9]; exact hn)) hsz hk
  omega
set_option maxRecDepth 100000 in
theorem open_bools04 {H : Type} {enc : TypeId × Value → H} {W : World} {base : Nat} {v : Value} {d : DataW H} {p : List MemPlace}
    (hv : Value.okWide Tryd.prog W .any base 38 v) (h : DataW.Trod enc Tryd.prog W 0 (fun _ => true) true 38 v d p) :
    ∃ (l : List Bool) (a : Option Addr) (c : Nat), v = .slice a l.length c ∧ RowAt eBool W (.slice a l.length c) l := by
  obtain ⟨aa, len, cap, rfl⟩ := okWide_slice Tryd.underlying38 hv
  obtain ⟨fuel, hf⟩ := h
  obtain ⟨l, a, c, e, hrow, _⟩ := part_bools (show DataW.trod enc Tryd.prog W 0 (fun _ => true) true fuel 38 [.slice aa len cap] = some (d, p) from hf)
  exact ⟨l, a, c, e, e ▸ hrow⟩
set_option maxRecDepth 100000 in
theorem open_two04 {H : Type} {enc : TypeId × Value → H} {W : World} {base : Nat} {v : Value} {d : DataW H} {p : List MemPlace}
    (hv : Value.okWide Tryd.prog W .any base 39 v) (h : DataW.Trod enc Tryd.prog W 0 (fun _ => true) true 39 v d p) :
    ∃ x y : Int, v = .agg #[.int .i64 x, .int .i64 y] ∧ (Lit.int .i64 x).wf = true ∧ (Lit.int .i64 y).wf = true := by
  have hC : Tryd.prog.cellsOf 39 = 2 := by kernel_rfl
  obtain ⟨cs, rfl, hsz2⟩ : ∃ cs, v = .agg cs ∧ cs.size = Tryd.prog.cellsOf 39 := by
    simp only [Value.okWide, Tryd.underlying39] at hv
    obtain ⟨cs, e, hs, _⟩ := hv
    exact ⟨cs, e, hs⟩
  obtain ⟨l⟩ := cs
  match l, hsz2.trans hC with
  | [c0, c1], _ =>
    obtain ⟨fuel, hf⟩ := h
    obtain ⟨xs, n, _, hx, _, hlen, hg⟩ := DataW.trod_array Tryd.underlying39 hf
    match xs, hlen with
    | [y0, y1], _ =>
      have t0 : DataW.trod enc Tryd.prog W 0 (fun _ => true) true n 3 [c0] = some y0 := by simpa [Value.cells, cellsOfInt4] using hg 0 (by decide)
      have t1 : DataW.trod enc Tryd.prog W 0 (fun _ => true) true n 3 [c1] = some y1 := by simpa [Value.cells, cellsOfInt4] using hg 1 (by decide)
      obtain ⟨a0, e0, _, w0⟩ := DataW.trod_int Tryd.underlying3 t0
      obtain ⟨a1, e1, _, w1⟩ := DataW.trod_int Tryd.underlying3 t1
      simp only [List.cons.injEq, and_true] at e0 e1
      subst e0 e1
      exact ⟨a0, a1, rfl, w0, w1⟩
end Go.Proofs.YtflbioiildndoaaDoor
