/- what an argument reads as: a superblock that came in -/
import Derived.Test.YtaofhdoieffhhaaDoorOpenPage
import Derived.Test.YtaofhdoieffhhaaDoorSuperMath
import Derived.Deep.Fields
namespace Go.Proofs.YtaofhdoieffhhaaDoor
open Go.Joins Go.ChangeShapes Go.WideShapes Go.ChangeAt Go.RowKit Go.Deep

set_option maxRecDepth 100000 in
theorem part_super {H : Type} {enc : TypeId × Value → H} {W : World} {n : Nat} {c0 c1 c2 c3 c4 : Value} {y : DataW H × List MemPlace}
    (hf : DataW.trod enc Tryd.prog W 0 (fun _ => true) true n 48 [c0, c1, c2, c3, c4] = some y) :
    ∃ q : Su.Sup, c0 = .int .u64 (q.gen : Int) ∧ c1 = .int .i64 q.blocks ∧ c2 = .int .i64 q.size ∧ c3 = .int .i64 q.root ∧ c4 = .int .i64 q.keys ∧ q.gen < 18446744073709551616 := by
  obtain ⟨xs, n, _, hx, _, hlen, hg⟩ := DataW.trod_struct Tryd.underlying48 hf
  match xs, hlen with
  | [y0, y1, y2, y3], _ =>
    have k1 : Tryd.prog.cellsOf 22 = 1 := by kernel_rfl
    have k2 : Tryd.prog.cellsOf 46 = 2 := by kernel_rfl
    have k3 : Tryd.prog.cellsOf 3 = 1 := by kernel_rfl
    have t0 : DataW.trod enc Tryd.prog W 0 (fun _ => true) true n 22 [c0] = some y0 := by simpa [k1] using hg 0 _ rfl
    have t1 : DataW.trod enc Tryd.prog W 0 (fun _ => true) true n 46 [c1, c2] = some y1 := by simpa [k2] using hg 1 _ rfl
    have t2 : DataW.trod enc Tryd.prog W 0 (fun _ => true) true n 3 [c3] = some y2 := by simpa [k3] using hg 2 _ rfl
    have t3 : DataW.trod enc Tryd.prog W 0 (fun _ => true) true n 3 [c4] = some y3 := by simpa [k3] using hg 3 _ rfl
    obtain ⟨a0, e0, _, hx0⟩ := DataW.trod_int Tryd.underlying22 t0
    obtain ⟨a3, e3, _, _⟩ := DataW.trod_int Tryd.underlying3 t2
    obtain ⟨a4, e4, _, _⟩ := DataW.trod_int Tryd.underlying3 t3
    obtain ⟨zs, m, _, _, _, hlen2, hg2⟩ := DataW.trod_struct Tryd.underlying46 t1
    match zs, hlen2 with
    | [z0, z1], _ =>
      have u0 : DataW.trod enc Tryd.prog W 0 (fun _ => true) true m 3 [c1] = some z0 := by simpa [k3] using hg2 0 _ rfl
      have u1 : DataW.trod enc Tryd.prog W 0 (fun _ => true) true m 3 [c2] = some z1 := by simpa [k3] using hg2 1 _ rfl
      obtain ⟨a1, e1, _, _⟩ := DataW.trod_int Tryd.underlying3 u0
      obtain ⟨a2, e2, _, _⟩ := DataW.trod_int Tryd.underlying3 u1
      simp only [List.cons.injEq, and_true] at e0 e1 e2 e3 e4
      subst e0 e1 e2 e3 e4
      obtain ⟨g, rfl, hgg⟩ := u64_nat hx0
      exact ⟨⟨g, a1, a2, a3, a4⟩, rfl, rfl, rfl, rfl, rfl, hgg⟩
set_option maxRecDepth 100000 in
theorem open_super {H : Type} {enc : TypeId × Value → H} {W : World} {base : Nat} {v : Value} {d : DataW H} {p : List MemPlace}
    (hv : Value.okWide Tryd.prog W .any base 48 v) (h : DataW.Trod enc Tryd.prog W 0 (fun _ => true) true 48 v d p) :
    ∃ q : Su.Sup, v = .agg #[.int .u64 (q.gen : Int), .int .i64 q.blocks, .int .i64 q.size, .int .i64 q.root, .int .i64 q.keys] ∧ q.gen < 18446744073709551616 := by
  have hC : Tryd.prog.cellsOf 48 = 5 := by kernel_rfl
  obtain ⟨cs, rfl, hsz⟩ := okWide_struct Tryd.underlying48 hv
  obtain ⟨l⟩ := cs
  match l, hsz.trans hC with
  | [c0, c1, c2, c3, c4], _ =>
    obtain ⟨fuel, hf⟩ := h
    obtain ⟨xs, n, _, hx, _, hlen, hg⟩ := DataW.trod_struct Tryd.underlying48 hf
    match xs, hlen with
    | [y0, y1, y2, y3], _ =>
      have k1 : Tryd.prog.cellsOf 22 = 1 := by kernel_rfl
      have k2 : Tryd.prog.cellsOf 46 = 2 := by kernel_rfl
      have k3 : Tryd.prog.cellsOf 3 = 1 := by kernel_rfl
      have t0 : DataW.trod enc Tryd.prog W 0 (fun _ => true) true n 22 [c0] = some y0 := by simpa [Value.cells, k1] using hg 0 _ rfl
      have t1 : DataW.trod enc Tryd.prog W 0 (fun _ => true) true n 46 [c1, c2] = some y1 := by simpa [Value.cells, k2] using hg 1 _ rfl
      have t2 : DataW.trod enc Tryd.prog W 0 (fun _ => true) true n 3 [c3] = some y2 := by simpa [Value.cells, k3] using hg 2 _ rfl
      have t3 : DataW.trod enc Tryd.prog W 0 (fun _ => true) true n 3 [c4] = some y3 := by simpa [Value.cells, k3] using hg 3 _ rfl
      obtain ⟨a0, e0, _, hx0⟩ := DataW.trod_int Tryd.underlying22 t0
      obtain ⟨a3, e3, _, _⟩ := DataW.trod_int Tryd.underlying3 t2
      obtain ⟨a4, e4, _, _⟩ := DataW.trod_int Tryd.underlying3 t3
      obtain ⟨zs, m, _, _, _, hlen2, hg2⟩ := DataW.trod_struct Tryd.underlying46 t1
      match zs, hlen2 with
      | [z0, z1], _ =>
        have u0 : DataW.trod enc Tryd.prog W 0 (fun _ => true) true m 3 [c1] = some z0 := by simpa [k3] using hg2 0 _ rfl
        have u1 : DataW.trod enc Tryd.prog W 0 (fun _ => true) true m 3 [c2] = some z1 := by simpa [k3] using hg2 1 _ rfl
        obtain ⟨a1, e1, _, _⟩ := DataW.trod_int Tryd.underlying3 u0
        obtain ⟨a2, e2, _, _⟩ := DataW.trod_int Tryd.underlying3 u1
        simp only [List.cons.injEq, and_true] at e0 e1 e2 e3 e4
        subst e0 e1 e2 e3 e4
        obtain ⟨g, rfl, hgg⟩ := u64_nat hx0
        exact ⟨⟨g, a1, a2, a3, a4⟩, rfl, hgg⟩
set_option maxRecDepth 100000 in
theorem open_torn06 {H : Type} {enc : TypeId × Value → H} {W : World} {base : Nat} {v : Value} {d : DataW H} {p : List MemPlace}
    (hv : Value.okWide Tryd.prog W .any base 50 v) (h : DataW.Trod enc Tryd.prog W 0 (fun _ => true) true 50 v d p) :
    ∃ (s o y : Su.Sup) (bare : Bool) (cut : Int), v = .agg #[.int .u64 (s.gen : Int), .int .i64 s.blocks, .int .i64 s.size, .int .i64 s.root, .int .i64 s.keys, .int .u64 (o.gen : Int), .int .i64 o.blocks, .int .i64 o.size, .int .i64 o.root, .int .i64 o.keys,
      .int .u64 (y.gen : Int), .int .i64 y.blocks, .int .i64 y.size, .int .i64 y.root, .int .i64 y.keys, .bool bare, .int .i64 cut] ∧ s.gen < 18446744073709551616 ∧ o.gen < 18446744073709551616 ∧ y.gen < 18446744073709551616 := by
  have hC : Tryd.prog.cellsOf 50 = 17 := by kernel_rfl
  obtain ⟨cs, rfl, hsz⟩ := okWide_struct Tryd.underlying50 hv
  obtain ⟨l⟩ := cs
  match l, hsz.trans hC with
  | [c0, c1, c2, c3, c4, c5, c6, c7, c8, c9, c10, c11, c12, c13, c14, c15, c16], _ =>
    obtain ⟨fuel, hf⟩ := h
    obtain ⟨xs, n, _, hx, _, hlen, hg⟩ := DataW.trod_struct Tryd.underlying50 hf
    match xs, hlen with
    | [y0, y1, y2, y3, y4], _ =>
      have k1 : Tryd.prog.cellsOf 48 = 5 := by kernel_rfl
      have k2 : Tryd.prog.cellsOf 4 = 1 := by kernel_rfl
      have k3 : Tryd.prog.cellsOf 3 = 1 := by kernel_rfl
      obtain ⟨s, rfl, rfl, rfl, rfl, rfl, hs⟩ := part_super (show DataW.trod enc Tryd.prog W 0 (fun _ => true) true n 48 [c0, c1, c2, c3, c4] = some y0 by simpa [Value.cells, k1] using hg 0 _ rfl)
      obtain ⟨o, rfl, rfl, rfl, rfl, rfl, ho⟩ := part_super (show DataW.trod enc Tryd.prog W 0 (fun _ => true) true n 48 [c5, c6, c7, c8, c9] = some y1 by simpa [Value.cells, k1] using hg 1 _ rfl)
      obtain ⟨y, rfl, rfl, rfl, rfl, rfl, hy⟩ := part_super (show DataW.trod enc Tryd.prog W 0 (fun _ => true) true n 48 [c10, c11, c12, c13, c14] = some y2 by simpa [Value.cells, k1] using hg 2 _ rfl)
      have t3 : DataW.trod enc Tryd.prog W 0 (fun _ => true) true n 4 [c15] = some y3 := by simpa [Value.cells, k2] using hg 3 _ rfl
      have t4 : DataW.trod enc Tryd.prog W 0 (fun _ => true) true n 3 [c16] = some y4 := by simpa [Value.cells, k3] using hg 4 _ rfl
      obtain ⟨b, e3, _⟩ := DataW.trod_bool Tryd.underlying4 t3
      obtain ⟨a4, e4, _, _⟩ := DataW.trod_int Tryd.underlying3 t4
      simp only [List.cons.injEq, and_true] at e3 e4
      subst e3 e4
      exact ⟨s, o, y, b, a4, rfl, hs, ho, hy⟩
end Go.Proofs.YtaofhdoieffhhaaDoor
