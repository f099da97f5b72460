/- pages: the walk of page.Seal -/
import Derived.Test.YtflbioiildndoaaDoorPage
import Derived.Test.YtflbioiildndoaaDoorZeros
namespace Go.Proofs.YtflbioiildndoaaDoor
open Go.RowKit
set_option linter.unusedVariables false
set_option linter.unusedSimpArgs false

theorem check_good (p : Pg.Page) (a : Option Addr) (c : Nat) (size : Int) (w : World) (A : Nat → Addr) {S : Nat → Prop} [Has S 1] [Has S 2] [Has S 5] (hs : SentsOn S w A) (h : Pg.checkC p size = 0) :
    Calls Tryd.prog 70 #[.agg #[.int .i64 p.kind, .int .i64 p.id, .int .u64 (p.gen : Int), .slice a p.body.length c], .int .i64 size] w fun e w' => e = .returned .nilIface ∧ Below w.heap.size w w' := by
  obtain ⟨h1, h2, h3, h4⟩ := Pg.check_ok h
  refine (check_any p a c size w A hs (by omega) (by omega)).mono fun e w' ⟨⟨v, l, he, hv⟩, hb⟩ => ⟨?_, hb⟩
  rw [h] at hv
  rw [he, hv.isNil.1]

/-- the first parts of a page's head -/
def pre (kind n id gen : Nat) : Nat → List UInt8
  | 0 => []
  | 1 => Fld.le 1 kind
  | 2 => Fld.le 1 kind ++ Fld.le 1 0
  | 3 => Fld.le 1 kind ++ Fld.le 1 0 ++ Fld.le 2 n
  | 4 => Fld.le 1 kind ++ Fld.le 1 0 ++ Fld.le 2 n ++ Fld.le 4 id
  | 5 => Fld.le 1 kind ++ Fld.le 1 0 ++ Fld.le 2 n ++ Fld.le 4 id ++ Fld.le 8 gen
  | _ => Fld.le 1 kind ++ Fld.le 1 0 ++ Fld.le 2 n ++ Fld.le 4 id ++ Fld.le 8 gen ++ Fld.le 4 0
theorem pre_all (kind n id gen : Nat) : pre kind n id gen 6 = Pg.headL kind n id gen := by simp [pre, Pg.headL]

theorem put_is (v : Value) (l : List UInt8) (n x : Nat) (N X : Int) (w : World) (hN : N = (n : Int)) (hX : X = (x : Int)) (hb : BytesAt w v l) (hx : Fld.right (x : Int) = true) (hn : n < 256 ^ x) (hn64 : n < 18446744073709551616) (hlen : l.length ≤ 140737488351232) :
    Calls Tryd.prog 98 #[v, .int .u64 N, .int .i64 X] w fun e w' => (∃ a c, e = .returned (.tuple #[.slice a (l ++ Fld.le x n).length c, .nilIface]) ∧ Own w' w.heap.size (.slice a (l ++ Fld.le x n).length c) (l ++ Fld.le x n)) ∧ Below w.heap.size w w' := by
  subst hN hX
  exact (put_ok v l n x w hb hx hn hn64 hlen).mono fun e w' ⟨hg, hb⟩ => ⟨hg.seen, hb⟩
theorem pre_length (kind n id gen k : Nat) (h : k ≤ 6) : (pre kind n id gen k).length ≤ 20 := by
  rcases (show k = 0 ∨ k = 1 ∨ k = 2 ∨ k = 3 ∨ k = 4 ∨ k = 5 ∨ k = 6 by omega) with rfl | rfl | rfl | rfl | rfl | rfl | rfl <;> simp [pre, Fld.le_length]
theorem Tryd.parts (a0 a1 b0 b1 c0 c1 d0 d1 e0 e1 f0 f1 : Value) (w : World) :
    (Instr.index 152 (.agg #[a0, a1, b0, b1, c0, c1, d0, d1, e0, e1, f0, f1]) (.int .i64 0)).run Tryd.prog w = .ok (.agg #[a0, a1]) w ∧
    (Instr.index 152 (.agg #[a0, a1, b0, b1, c0, c1, d0, d1, e0, e1, f0, f1]) (.int .i64 1)).run Tryd.prog w = .ok (.agg #[b0, b1]) w ∧
    (Instr.index 152 (.agg #[a0, a1, b0, b1, c0, c1, d0, d1, e0, e1, f0, f1]) (.int .i64 2)).run Tryd.prog w = .ok (.agg #[c0, c1]) w ∧
    (Instr.index 152 (.agg #[a0, a1, b0, b1, c0, c1, d0, d1, e0, e1, f0, f1]) (.int .i64 3)).run Tryd.prog w = .ok (.agg #[d0, d1]) w ∧
    (Instr.index 152 (.agg #[a0, a1, b0, b1, c0, c1, d0, d1, e0, e1, f0, f1]) (.int .i64 4)).run Tryd.prog w = .ok (.agg #[e0, e1]) w ∧
    (Instr.index 152 (.agg #[a0, a1, b0, b1, c0, c1, d0, d1, e0, e1, f0, f1]) (.int .i64 5)).run Tryd.prog w = .ok (.agg #[f0, f1]) w :=
  ⟨by kernel_rfl, by kernel_rfl, by kernel_rfl, by kernel_rfl, by kernel_rfl, by kernel_rfl⟩

/-- one part more -/
def preN (n id gen kind : Nat) : Nat → Nat × Nat
  | 0 => (kind, 1)
  | 1 => (0, 1)
  | 2 => (n, 2)
  | 3 => (id, 4)
  | 4 => (gen, 8)
  | _ => (0, 4)
set_option maxRecDepth 100000 in
set_option maxHeartbeats 2000000 in
theorem seal_ok (p : Pg.Page) (a : Option Addr) (c : Nat) (size : Nat) (w : World) (A : Nat → Addr) {S : Nat → Prop} [Has S 1] [Has S 2] [Has S 5] (hs : SentsOn S w A) (hb : BytesAt w (.slice a p.body.length c) p.body) (h : Pg.checkC p size = 0) (hg : p.gen < 18446744073709551616) :
    Calls Tryd.prog 89 #[.agg #[.int .i64 p.kind, .int .i64 p.id, .int .u64 (p.gen : Int), .slice a p.body.length c], .int .i64 (size : Int)] w fun e w' => GivesBytes w (Pg.sealL p size) e w' ∧ Below w.heap.size w w' := by
  obtain ⟨h1, h2, h3, h4⟩ := Pg.check_ok h
  have HS := Lib.hid hs
  have HB := Lib.hid hb
  have HC := Lib.hid h
  have hc : p.body.length ≤ c ∧ c ≤ maxLen := by
    obtain ⟨a', c', e, q1, q2, _⟩ := hb
    simp only [Value.slice.injEq] at e
    obtain ⟨_, _, rfl⟩ := e
    exact ⟨q1, q2⟩
  clear hs hb h
  obtain ⟨kind, id, gen, body⟩ := p
  simp only at *
  obtain ⟨kn, rfl⟩ : ∃ kn : Nat, kind = kn := ⟨kind.toNat, by omega⟩
  obtain ⟨idn, rfl⟩ : ∃ idn : Nat, id = idn := ⟨id.toNat, by omega⟩
  go_enter Tryd.func89, Tryd.ntmps89
  go_wp2_with (go_at_call 70; refine (check_good ⟨kn, idn, gen, body⟩ a c size _ A (HS.out.below ((Below.refl _ _).alloc (Nat.le_refl _) _)) HC.out).mono ?_; rintro e w1 ⟨rfl, hb1⟩; obtain ⟨bc1, bf1⟩ := bcellB hb1)
  have hs1 := hb1.size
  simp only [World.size_alloc] at hs1
  have hbw : Below (w.heap.size + 1) (w.alloc (.cells #[.int .i64 kn, .int .i64 idn, .int .u64 gen, .slice a body.length c] 78)) w1 := hb1.mono (by simp)
  go_loopw [7, 8, 37] (fun v7 v8 i wr => ∃ k : Nat, k ≤ 6 ∧ i = .int .i64 k ∧ v8 = .nilIface ∧ Own wr (w.heap.size + 1) v7 (pre kn body.length idn gen k) ∧ Below (w.heap.size + 1) (w.alloc (.cells #[.int .i64 kn, .int .i64 idn, .int .u64 gen, .slice a body.length c] 78)) wr) (fun _ _ i _ => 6 - (intOf i).toNat)
  case atStart => exact ⟨0, by omega, rfl, rfl, Own.nil _ _, hbw⟩
  case round =>
    obtain ⟨k, hk, rfl, rfl, ho, hbr⟩ := hrel
    have HO := Lib.hid ho
    have HBR := Lib.hid hbr
    clear ho hbr hbw hb1 bc1 bf1 hs1
    by_cases hk6 : k = 6
    · subst hk6
      have hpre := pre_all kn body.length idn gen
      rw [hpre] at HO
      have bw : Below w.heap.size w wr := (show Below w.heap.size w _ by go_grown).trans (HBR.out.mono (by omega))
      have m3 : wr.cell? ⟨w.heap.size, 3, none⟩ = some (.slice a body.length c) := by rw [(bcellB HBR.out).1 _ _ (by omega)]; go_simp
      have hbody := Lib.hid (HB.out.below bw)
      have hsw := HBR.out.size
      simp only [World.size_alloc] at hsw
      have hhl := Pg.headL_length kn body.length idn gen
      have HBW := Lib.hid bw
      clear hpre bw hk
      go_wp2_with (at_builtin; refine wpList_append_bytes rfl (.tmp 55) (.tmp 57) rfl (w.heap.size + 1) _ _ rfl HO.out _ body rfl hbody.out ?q1 ?q2 ?_)
      case q1 => rw [hhl]; omega
      case q2 => omega
      intro v2 w2 ho2 hg2 _
      have HO2 := Lib.hid ho2
      have HB2 := Lib.hid (HBR.out.grown hg2 (by omega) (fun j hj => (HO.out.lt j hj).1))
      obtain ⟨a2, c2, hv2, hc2, hc2m⟩ := ho2.slice
      rw [show (Pg.headL kn body.length idn gen ++ body).length = 20 + body.length by rw [List.length_append, hhl]] at hv2
      rw [hv2] at HO2 ⊢
      have hs2 := HB2.out.size
      simp only [World.size_alloc] at hs2
      clear ho2 hg2 hv2
      go_wp2_with (at_builtin; refine wpList_append_zeros rfl (.tmp 59) (.tmp 64) rfl (w.heap.size + 1) _ _ rfl HO2.out (size - 24 - body.length) _ rfl ?q1 ?q2 ?q3 ?_)
      case q1 => omega
      case q2 => rw [List.length_append, hhl]; omega
      case q3 => omega
      intro v3 w3 ho3 hg3
      have ho3 : Own w3 (w.heap.size + 1) v3 (Pg.bare ⟨kn, idn, gen, body⟩ size) := by simpa [Pg.bare, Pg.pad] using ho3
      have hbl : (Pg.bare ⟨kn, idn, gen, body⟩ size).length = size - 4 := Pg.bare_length (by simp only; omega)
      have HO3 := Lib.hid ho3
      have HB3 := Lib.hid (HB2.out.grown hg3 (by omega) (fun j hj => (HO2.out.lt j hj).1))
      have HS3 := Lib.hid (show Pg.sealL ⟨kn, idn, gen, body⟩ size = Pg.bare ⟨kn, idn, gen, body⟩ size ++ Fld.le 4 (Crc.sum (Pg.bare ⟨kn, idn, gen, body⟩ size)).toNat from rfl)
      have hs3 := HB3.out.size
      simp only [World.size_alloc] at hs3
      clear ho3 hg3
      generalize Pg.bare ⟨kn, idn, gen, body⟩ size = bl at *
      have hcl := (Crc.sum bl).isLt
      go_wp2_with (go_at_call 99; refine (sum_any _ bl _ HO3.out.bytes).mono ?_; rintro e w4 ⟨rfl, rfl⟩)
      refine (put_is _ bl (Crc.sum bl).toNat 4 _ _ _ rfl rfl HO3.out.bytes (by decide) hcl (by omega) (by omega)).mono ?_
      rintro e w4 ⟨⟨a4, c4, rfl, ho4⟩, hb4⟩
      have HO4 := Lib.hid ho4
      have HB4 := Lib.hid (HB3.out.trans (hb4.mono (by omega)))
      clear ho4 hb4
      simp only []
      go_wp2_with (go_at_call 71; refine (faultWrap_nil _ _).mono ?_; rintro e w5 ⟨rfl, rfl⟩)
      go_ret2
      have hlen4 : (bl ++ Fld.le 4 (Crc.sum bl).toNat).length = size - 4 + (Fld.le 4 (Crc.sum bl).toNat).length := by rw [List.length_append, hbl]
      have ho5 := HO4.out.mono (b2 := w.heap.size) (by omega)
      rw [hlen4, ← HS3.out] at ho5
      exact ⟨⟨_, rfl, ho5⟩, (show Below w.heap.size w _ by go_grown).trans (HB4.out.mono (by omega))⟩
    · rcases (show k = 0 ∨ k = 1 ∨ k = 2 ∨ k = 3 ∨ k = 4 ∨ k = 5 by omega) with rfl | rfl | rfl | rfl | rfl | rfl
      · have ix := fun wq => (Tryd.parts (.int .u64 kn) (.int .u64 1) (.int .u64 0) (.int .u64 1) (.int .u64 body.length) (.int .u64 2) (.int .u64 idn) (.int .u64 4) (.int .u64 gen) (.int .u64 8) (.int .u64 0) (.int .u64 4) wq).1
        have hbb := (HO.out.alloc (.cells #[.int .u64 (kn : Nat), .int .u64 1] 151)).bytes
        have hn1 : kn < 256 ^ 1 := show kn < 256 by omega
        have hn2 : (kn : Nat) < 18446744073709551616 := by omega
        have hn3 : (pre kn body.length idn gen 0).length ≤ 140737488351232 := by have := pre_length kn body.length idn gen 0 (by omega); omega
        have HBB := Lib.hid hbb
        clear hbb
        go_wp2_with (go_at_call 98; refine (put_is _ (pre kn body.length idn gen 0) (kn : Nat) 1 _ _ _ rfl rfl HBB.out (by decide) hn1 hn2 hn3).mono ?_; rintro e w2 ⟨⟨a2, c2, rfl, ho2⟩, hb2⟩)
        have HO2 := Lib.hid (ho2.mono (base := _) (b2 := w.heap.size + 1) (by have := HBR.out.size; simp at this ⊢; omega))
        have HB2 := Lib.hid ((HBR.out.alloc (by have := HBR.out.size; simp at this ⊢; omega) (.cells #[.int .u64 (kn : Nat), .int .u64 1] 151)).trans (hb2.mono (by have := HBR.out.size; simp at this ⊢; omega)))
        clear ho2 hb2
        go_roundw
        case rel => exact ⟨1, by omega, rfl, rfl, HO2.out, HB2.out⟩
        case measure => simp [intOf]
      · have ix := fun wq => (Tryd.parts (.int .u64 kn) (.int .u64 1) (.int .u64 0) (.int .u64 1) (.int .u64 body.length) (.int .u64 2) (.int .u64 idn) (.int .u64 4) (.int .u64 gen) (.int .u64 8) (.int .u64 0) (.int .u64 4) wq).2.1
        have hbb := (HO.out.alloc (.cells #[.int .u64 (0 : Nat), .int .u64 1] 151)).bytes
        have hn1 : 0 < 256 ^ 1 := show 0 < 256 by omega
        have hn2 : (0 : Nat) < 18446744073709551616 := by omega
        have hn3 : (pre kn body.length idn gen 1).length ≤ 140737488351232 := by have := pre_length kn body.length idn gen 1 (by omega); omega
        have HBB := Lib.hid hbb
        clear hbb
        go_wp2_with (go_at_call 98; refine (put_is _ (pre kn body.length idn gen 1) (0 : Nat) 1 _ _ _ rfl rfl HBB.out (by decide) hn1 hn2 hn3).mono ?_; rintro e w2 ⟨⟨a2, c2, rfl, ho2⟩, hb2⟩)
        have HO2 := Lib.hid (ho2.mono (base := _) (b2 := w.heap.size + 1) (by have := HBR.out.size; simp at this ⊢; omega))
        have HB2 := Lib.hid ((HBR.out.alloc (by have := HBR.out.size; simp at this ⊢; omega) (.cells #[.int .u64 (0 : Nat), .int .u64 1] 151)).trans (hb2.mono (by have := HBR.out.size; simp at this ⊢; omega)))
        clear ho2 hb2
        go_roundw
        case rel => exact ⟨2, by omega, rfl, rfl, HO2.out, HB2.out⟩
        case measure => simp [intOf]
      · have ix := fun wq => (Tryd.parts (.int .u64 kn) (.int .u64 1) (.int .u64 0) (.int .u64 1) (.int .u64 body.length) (.int .u64 2) (.int .u64 idn) (.int .u64 4) (.int .u64 gen) (.int .u64 8) (.int .u64 0) (.int .u64 4) wq).2.2.1
        have hbb := (HO.out.alloc (.cells #[.int .u64 (body.length : Nat), .int .u64 2] 151)).bytes
        have hn1 : body.length < 256 ^ 2 := show body.length < 65536 by omega
        have hn2 : (body.length : Nat) < 18446744073709551616 := by omega
        have hn3 : (pre kn body.length idn gen 2).length ≤ 140737488351232 := by have := pre_length kn body.length idn gen 2 (by omega); omega
        have HBB := Lib.hid hbb
        clear hbb
        go_wp2_with (go_at_call 98; refine (put_is _ (pre kn body.length idn gen 2) (body.length : Nat) 2 _ _ _ rfl rfl HBB.out (by decide) hn1 hn2 hn3).mono ?_; rintro e w2 ⟨⟨a2, c2, rfl, ho2⟩, hb2⟩)
        have HO2 := Lib.hid (ho2.mono (base := _) (b2 := w.heap.size + 1) (by have := HBR.out.size; simp at this ⊢; omega))
        have HB2 := Lib.hid ((HBR.out.alloc (by have := HBR.out.size; simp at this ⊢; omega) (.cells #[.int .u64 (body.length : Nat), .int .u64 2] 151)).trans (hb2.mono (by have := HBR.out.size; simp at this ⊢; omega)))
        clear ho2 hb2
        go_roundw
        case rel => exact ⟨3, by omega, rfl, rfl, HO2.out, HB2.out⟩
        case measure => simp [intOf]
      · have ix := fun wq => (Tryd.parts (.int .u64 kn) (.int .u64 1) (.int .u64 0) (.int .u64 1) (.int .u64 body.length) (.int .u64 2) (.int .u64 idn) (.int .u64 4) (.int .u64 gen) (.int .u64 8) (.int .u64 0) (.int .u64 4) wq).2.2.2.1
        have hbb := (HO.out.alloc (.cells #[.int .u64 (idn : Nat), .int .u64 4] 151)).bytes
        have hn1 : idn < 256 ^ 4 := show idn < 4294967296 by omega
        have hn2 : (idn : Nat) < 18446744073709551616 := by omega
        have hn3 : (pre kn body.length idn gen 3).length ≤ 140737488351232 := by have := pre_length kn body.length idn gen 3 (by omega); omega
        have HBB := Lib.hid hbb
        clear hbb
        go_wp2_with (go_at_call 98; refine (put_is _ (pre kn body.length idn gen 3) (idn : Nat) 4 _ _ _ rfl rfl HBB.out (by decide) hn1 hn2 hn3).mono ?_; rintro e w2 ⟨⟨a2, c2, rfl, ho2⟩, hb2⟩)
        have HO2 := Lib.hid (ho2.mono (base := _) (b2 := w.heap.size + 1) (by have := HBR.out.size; simp at this ⊢; omega))
        have HB2 := Lib.hid ((HBR.out.alloc (by have := HBR.out.size; simp at this ⊢; omega) (.cells #[.int .u64 (idn : Nat), .int .u64 4] 151)).trans (hb2.mono (by have := HBR.out.size; simp at this ⊢; omega)))
        clear ho2 hb2
        go_roundw
        case rel => exact ⟨4, by omega, rfl, rfl, HO2.out, HB2.out⟩
        case measure => simp [intOf]
      · have ix := fun wq => (Tryd.parts (.int .u64 kn) (.int .u64 1) (.int .u64 0) (.int .u64 1) (.int .u64 body.length) (.int .u64 2) (.int .u64 idn) (.int .u64 4) (.int .u64 gen) (.int .u64 8) (.int .u64 0) (.int .u64 4) wq).2.2.2.2.1
        have hbb := (HO.out.alloc (.cells #[.int .u64 (gen : Nat), .int .u64 8] 151)).bytes
        have hn1 : gen < 256 ^ 8 := show gen < 18446744073709551616 by omega
        have hn2 : (gen : Nat) < 18446744073709551616 := by omega
        have hn3 : (pre kn body.length idn gen 4).length ≤ 140737488351232 := by have := pre_length kn body.length idn gen 4 (by omega); omega
        have HBB := Lib.hid hbb
        clear hbb
        go_wp2_with (go_at_call 98; refine (put_is _ (pre kn body.length idn gen 4) (gen : Nat) 8 _ _ _ rfl rfl HBB.out (by decide) hn1 hn2 hn3).mono ?_; rintro e w2 ⟨⟨a2, c2, rfl, ho2⟩, hb2⟩)
        have HO2 := Lib.hid (ho2.mono (base := _) (b2 := w.heap.size + 1) (by have := HBR.out.size; simp at this ⊢; omega))
        have HB2 := Lib.hid ((HBR.out.alloc (by have := HBR.out.size; simp at this ⊢; omega) (.cells #[.int .u64 (gen : Nat), .int .u64 8] 151)).trans (hb2.mono (by have := HBR.out.size; simp at this ⊢; omega)))
        clear ho2 hb2
        go_roundw
        case rel => exact ⟨5, by omega, rfl, rfl, HO2.out, HB2.out⟩
        case measure => simp [intOf]
      · have ix := fun wq => (Tryd.parts (.int .u64 kn) (.int .u64 1) (.int .u64 0) (.int .u64 1) (.int .u64 body.length) (.int .u64 2) (.int .u64 idn) (.int .u64 4) (.int .u64 gen) (.int .u64 8) (.int .u64 0) (.int .u64 4) wq).2.2.2.2.2
        have hbb := (HO.out.alloc (.cells #[.int .u64 (0 : Nat), .int .u64 4] 151)).bytes
        have hn1 : 0 < 256 ^ 4 := show 0 < 4294967296 by omega
        have hn2 : (0 : Nat) < 18446744073709551616 := by omega
        have hn3 : (pre kn body.length idn gen 5).length ≤ 140737488351232 := by have := pre_length kn body.length idn gen 5 (by omega); omega
        have HBB := Lib.hid hbb
        clear hbb
        go_wp2_with (go_at_call 98; refine (put_is _ (pre kn body.length idn gen 5) (0 : Nat) 4 _ _ _ rfl rfl HBB.out (by decide) hn1 hn2 hn3).mono ?_; rintro e w2 ⟨⟨a2, c2, rfl, ho2⟩, hb2⟩)
        have HO2 := Lib.hid (ho2.mono (base := _) (b2 := w.heap.size + 1) (by have := HBR.out.size; simp at this ⊢; omega))
        have HB2 := Lib.hid ((HBR.out.alloc (by have := HBR.out.size; simp at this ⊢; omega) (.cells #[.int .u64 (0 : Nat), .int .u64 4] 151)).trans (hb2.mono (by have := HBR.out.size; simp at this ⊢; omega)))
        clear ho2 hb2
        go_roundw
        case rel => exact ⟨6, by omega, rfl, rfl, HO2.out, HB2.out⟩
        case measure => simp [intOf]

theorem check_bad (p : Pg.Page) (a : Option Addr) (c : Nat) (size : Int) (w : World) (A : Nat → Addr) {S : Nat → Prop} [Has S 1] [Has S 2] [Has S 5] (hs : SentsOn S w A) (hsz : -9223372036854775808 ≤ size ∧ size ≤ 9223372036854775807) (hn : p.body.length ≤ 9223372036854775807) (h : Pg.checkC p size ≠ 0) :
    Calls Tryd.prog 70 #[.agg #[.int .i64 p.kind, .int .i64 p.id, .int .u64 (p.gen : Int), .slice a p.body.length c], .int .i64 size] w fun e w' => (∃ t x l, e = .returned (.iface t x) ∧ ErrIs w' A w.heap.size l (Pg.checkC p size) (.iface t x)) ∧ Below w.heap.size w w' :=
  (check_any p a c size w A hs hsz hn).mono fun e w' ⟨⟨v, l, he, hv⟩, hb⟩ => by
    obtain ⟨t, x, rfl⟩ := hv.iface h
    exact ⟨⟨t, x, l, he, hv⟩, hb⟩
set_option maxHeartbeats 1000000 in
theorem seal_bad (p : Pg.Page) (a : Option Addr) (c : Nat) (size : Int) (w : World) (A : Nat → Addr) {S : Nat → Prop} [Has S 1] [Has S 2] [Has S 5] (hs : SentsOn S w A) (hsz : -9223372036854775808 ≤ size ∧ size ≤ 9223372036854775807) (hn : p.body.length ≤ 9223372036854775807) (h : Pg.checkC p size ≠ 0) :
    Calls Tryd.prog 89 #[.agg #[.int .i64 p.kind, .int .i64 p.id, .int .u64 (p.gen : Int), .slice a p.body.length c], .int .i64 size] w fun e w' => (∃ t x l, e = .returned (.tuple #[.slice none 0 0, .iface t x]) ∧ ErrIs w' A w.heap.size l (Pg.checkC p size) (.iface t x)) ∧ Below w.heap.size w w' := by
  have HS := Lib.hid hs
  have HC := Lib.hid h
  have HN := Lib.hid hn
  clear hs h hn
  obtain ⟨kind, id, gen, body⟩ := p
  simp only at *
  go_enter Tryd.func89, Tryd.ntmps89
  go_wp2_with (first
    | (go_at_call 70; refine (check_bad ⟨kind, id, gen, body⟩ a c size _ A (HS.out.below ((Below.refl _ _).alloc (Nat.le_refl _) _)) hsz HN.out HC.out).mono ?_; rintro e w1 ⟨⟨t, x, l, rfl, hE⟩, hb1⟩)
    | (go_at_call 71; refine (faultWrap_any _ l _ _ w1 A _ hE HC.out hb1.size).mono ?_; rintro e w2 ⟨⟨v2, rfl, hE2⟩, hb2⟩))
  go_ret2
  obtain ⟨t2, x2, rfl⟩ := hE2.iface HC.out
  exact ⟨⟨t2, x2, _, rfl, hE2.mono (by simp)⟩, ((show Below w.heap.size w _ by go_grown).trans (hb1.mono (by simp))).trans (hb2.mono (by have := hb1.size; simp at this; omega))⟩

/-- what Seal tells -/
def sealS (p : Pg.Page) (size : Int) : List UInt8 × Nat := if Pg.checkC p size = 0 then (Pg.sealL p size.toNat, 0) else ([], Pg.checkC p size)
theorem seal_any (p : Pg.Page) (a : Option Addr) (c : Nat) (size : Int) (w : World) (A : Nat → Addr) {S : Nat → Prop} [Has S 1] [Has S 2] [Has S 5] (hs : SentsOn S w A) (hb : BytesAt w (.slice a p.body.length c) p.body) (hsz : -9223372036854775808 ≤ size ∧ size ≤ 9223372036854775807) (hg : p.gen < 18446744073709551616) :
    Calls Tryd.prog 89 #[.agg #[.int .i64 p.kind, .int .i64 p.id, .int .u64 (p.gen : Int), .slice a p.body.length c], .int .i64 size] w fun e w' => BytesErr w A (sealS p size).1 (sealS p size).2 e w' ∧ Below w.heap.size w w' := by
  unfold sealS
  split
  · rename_i h
    obtain ⟨h1, _⟩ := Pg.check_ok h
    obtain ⟨m, rfl⟩ : ∃ m : Nat, size = m := ⟨size.toNat, by omega⟩
    refine (seal_ok p a c m w A hs hb h hg).mono fun e w' ⟨hgv, hb⟩ => ⟨?_, hb⟩
    obtain ⟨a', c', rfl, ho⟩ := hgv.seen
    exact ⟨a', c', _, [], rfl, ho, ErrIs.nil _ _ _⟩
  · rename_i h
    have hn : p.body.length ≤ 9223372036854775807 := by
      obtain ⟨a', c', e, q1, q2, _⟩ := hb
      unfold maxLen at q2
      omega
    refine (seal_bad p a c size w A hs hsz hn h).mono fun e w' ⟨⟨t, x, l, he, hE⟩, hb⟩ => ⟨⟨none, 0, _, l, he, nil_own w w', hE⟩, hb⟩
end Go.Proofs.YtflbioiildndoaaDoor
