/- block: copy of bytes onto an owned row; cloned; what a disk tells -/
import Derived.Test.YtflbioiildndoaaDoorBlock1
import Derived.Laws.CopyOwn
namespace Go.Proofs.YtflbioiildndoaaDoor
open Go.RowKit
set_option linter.unusedVariables false
set_option linter.unusedSimpArgs false

/-- what copy makes of the world, and of the row -/
theorem run_copy_bytes {w : World} {base g n cap : Nat} {l : List UInt8} (hown : Own w base (.slice (some ⟨g, 0, none⟩) n cap) l) (hn : n = l.length) {X : Value} {m : List UInt8} (hsrc : BytesAt w X m) (hml : m.length ≤ l.length) (ty : TypeId) :
    ∃ w', (Builtin.copy_ #[32, 32] ty #[.slice (some ⟨g, 0, none⟩) n cap, X]).run Tryd.prog w = .ok (goInt m.length) w' ∧ Own w' base (.slice (some ⟨g, 0, none⟩) n cap) (m ++ l.drop m.length) ∧ w.grownBy w' (some g) := by
  obtain ⟨i0, hi, hz0, hz1, hz2⟩ := info_parts Tryd.infoByte
  have hsz : (Tryd.prog.info? 5).map (·.size) = some 1 := by rw [hi]; simp [hz1]
  obtain ⟨a, c, rfl, h1, h2, h3⟩ := hsrc
  by_cases h0 : m.length = 0
  · obtain rfl : m = [] := List.eq_nil_of_length_eq_zero h0
    have hrun := run_copy_none (P := Tryd.prog) w 32 32 ty 5 (some ⟨g, 0, none⟩) a n cap 0 c Tryd.underlying32 hsz (by simp)
    exact ⟨w, by simpa using hrun, by simpa using hown, World.grownBy.refl _ _⟩
  · rcases h3 with h3 | ⟨b, o, rfl, hc⟩
    · exact absurd (by rw [h3]; rfl) h0
    · obtain ⟨cur, hg, hcur, htake, hnew⟩ := setRow_own hown hn (m ++ l.drop m.length) (by simp; omega)
      have hrun := run_copy_row (P := Tryd.prog) w 32 32 ty 5 g 0 n cap ⟨b, o, none⟩ m.length c cur 5 (bytesV m) Tryd.underlying32 hsz hg (by rw [bytesV_length, hn]; exact (Nat.min_eq_left hml).symm)
        (fun j v hv => by
          unfold bytesV at hv
          rw [List.getElem?_map] at hv
          cases hm : m[j]? with
          | none => rw [hm] at hv; cases hv
          | some x =>
            rw [hm] at hv
            cases hv
            rw [Addr.add_lit]
            exact hc j x hm) (by rw [bytesV_length]; omega) (fun v hv => by
          unfold bytesV at hv
          obtain ⟨x, _, rfl⟩ := List.mem_map.1 hv
          rfl)
      have e3 : cur.toList.drop m.length = bytesV (l.drop m.length) ++ cur.toList.drop l.length := by
        have e2 : cur.toList.drop m.length = (cur.toList.take l.length ++ cur.toList.drop l.length).drop m.length := by rw [List.take_append_drop]
        rw [e2, htake, List.drop_append_of_le_length (by rw [bytesV_length]; exact hml)]
        have e4 : (bytesV l).drop m.length = bytesV (l.drop m.length) := by unfold bytesV; rw [List.map_drop]
        rw [e4]
      have e : cur.toList.take 0 ++ bytesV m ++ cur.toList.drop (0 + (bytesV m).length) = bytesV (m ++ l.drop m.length) ++ cur.toList.drop l.length := by
        rw [List.take_zero, List.nil_append, Nat.zero_add, bytesV_append, List.append_assoc, bytesV_length, e3]
      rw [e, bytesV_length] at hrun
      exact ⟨_, hrun, hnew, ⟨rfl, rfl, rfl, by simp [World.setRow], fun k _ hk => setRow_other w g k _ (fun e => hk (by rw [e]))⟩⟩
theorem wpList_copy_bytes {ops : Array Oper} {rest : List Oper} {o : Oper} {a : Act} {Q : Exit → Act → World → Prop} {w : World} (hgd : o.guard = none) (d s : Operand)
    (ho : o.op = .call { callee := .builtin .copy, args := #[d, s], argTypes := #[32, 32] }) (base g n cap : Nat) (l : List UInt8)
    (hd : a.eval d = .slice (some ⟨g, 0, none⟩) n cap) (hown : Own w base (.slice (some ⟨g, 0, none⟩) n cap) l) (hn : n = l.length) (X : Value) (m : List UInt8) (hx : a.eval s = X) (hsrc : BytesAt w X m) (hml : m.length ≤ l.length)
    (h : ∀ w', Own w' base (.slice (some ⟨g, 0, none⟩) n cap) (m ++ l.drop m.length) → w.grownBy w' (some g) → wpList Tryd.prog ops Q rest (a.put o.dst (goInt m.length)) w') : wpList Tryd.prog ops Q (o :: rest) a w := by
  refine wpList_plain hgd fun K hK => ?_
  obtain ⟨w', hrun, h2, h3⟩ := run_copy_bytes hown hn hsrc hml o.type
  unfold Oper.wp
  simp [execOp, ho, resolve, invoke, builtin, hd, hx, hrun, Result.andThen]
  exact hK _ _ (h w' h2 h3)
theorem step_copy_bytes {o : Oper} {a : Act} {w : World} {K : Act → World → Prop} {Q : Exit → Act → World → Prop} (d s : Operand)
    (ho : o.op = .call { callee := .builtin .copy, args := #[d, s], argTypes := #[32, 32] }) (base g n cap : Nat) (l : List UInt8)
    (hd : a.eval d = .slice (some ⟨g, 0, none⟩) n cap) (hown : Own w base (.slice (some ⟨g, 0, none⟩) n cap) l) (hn : n = l.length) (m : List UInt8) (hsrc : BytesAt w (a.eval s) m) (hml : m.length ≤ l.length)
    (h : ∀ w', Own w' base (.slice (some ⟨g, 0, none⟩) n cap) (m ++ l.drop m.length) → w.grownBy w' (some g) → K (a.put o.dst (goInt m.length)) w') : o.wp Tryd.prog a w K Q := by
  obtain ⟨w', hrun, h2, h3⟩ := run_copy_bytes hown hn hsrc hml o.type
  unfold Oper.wp
  simp [execOp, ho, resolve, invoke, builtin, hd, hrun, Result.andThen]
  exact h w' h2 h3

set_option maxRecDepth 100000 in
theorem cloned_any (v : Value) (l : List UInt8) (w : World) (hb : BytesAt w v l) (hl : l.length ≤ 100000000) :
    Calls Tryd.prog 58 #[v] w fun e w' => (e = .returned (.slice (some ⟨w.heap.size, 0, none⟩) l.length l.length) ∧ Own w' w.heap.size (.slice (some ⟨w.heap.size, 0, none⟩) l.length l.length) l) ∧ Below w.heap.size w w' := by
  obtain ⟨a, c, rfl, hlc, hcm, -⟩ := id hb
  unfold maxLen at hcm
  have HB := Lib.hid hb
  clear hb
  go_enter Tryd.func58, Tryd.ntmps58
  go_upto_region 2 with (at_make; (refine wpList_make_bytes rfl _ _ rfl l.length _ _ rfl rfl (by omega) (by omega) (by omega) ?_))
  intro w1 hown hgrow
  have hb1 := (Below.refl w.heap.size w).grown hgrow (Nat.le_refl _) (by intro k hk; cases hk)
  have HO := Lib.hid hown
  have HB1 := Lib.hid hb1
  clear hown hgrow hb1
  go_upto_region 3 with ((with_reducible show wpList _ _ _ _ _ _); (refine wpList_copy_bytes rfl (.tmp 7) (.tmp 8) rfl w.heap.size w.heap.size l.length l.length (List.replicate l.length 0) rfl HO.out (by simp) _ l rfl (HB.out.below HB1.out) (by simp) ?_))
  intro w2 ho2 hg2
  have HO2 : Hid (Own w2 w.heap.size (.slice (some ⟨w.heap.size, 0, none⟩) l.length l.length) l) := Lib.hid (by simpa using ho2)
  have HB2 := Lib.hid (HB1.out.trans (below_of_grown hg2 (Nat.le_refl _) HB1.out.size))
  clear ho2 hg2
  go_wp2_with fail
  go_ret
  exact ⟨⟨rfl, HO2.out⟩, HB2.out⟩
/-- what a call tells that hands back bytes in new memory -/
def GivesB (w : World) (l : List UInt8) (e : Ending) (w' : World) : Prop := ∃ g, e = .returned (.tuple #[.slice (some ⟨g, 0, none⟩) l.length l.length, .nilIface]) ∧ Own w' w.heap.size (.slice (some ⟨g, 0, none⟩) l.length l.length) l
/-- what a call tells that hands back no bytes, but an error -/
def FailsB (w : World) (A : Nat → Addr) (l : List Int) (k : Nat) (e : Ending) (w' : World) : Prop := ∃ E, e = .returned (.tuple #[.slice none 0 0, E]) ∧ ErrIs w' A w.heap.size l k E

section
variable {F : Nat → Prop} {w : World} {p n : Nat} {d : Bk.Disk} {lv wv kv : Value} {gs : List (Nat × Nat)} {hs : List (Int × Nat × Nat)}
theorem DiskP.lastRow (h : DiskP F w p d lv wv kv gs hs) (ho : Bk.Ok n d) : ∃ lg lc, lv = .slice (some ⟨lg, 0, none⟩) d.blocks lc ∧ d.blocks ≤ lc ∧ lc ≤ maxLen := by
  have hl : gs.length = d.blocks := by rw [h.glen, ho.len]
  rcases h.last.row with ⟨rfl, h0⟩ | ⟨g, cap, h1, _, _, h4, h5⟩
  · have := ho.b; rw [h0] at hl; simp at hl; omega
  · rw [hl] at h1 h4
    exact ⟨g, cap, h1, h4, h5⟩
theorem DiskP.lastCell (h : DiskP F w p d lv wv kv gs hs) (ho : Bk.Ok n d) {lg lc : Nat} (e : lv = .slice (some ⟨lg, 0, none⟩) d.blocks lc) {i : Nat} (hi : i < d.blocks) : ∃ g : Nat × Nat, gs[i]? = some g ∧ w.cell? ⟨lg, i, none⟩ = some (.slice (some ⟨g.1, 0, none⟩) d.size g.2) ∧ w.frozen? ⟨lg, i, none⟩ = false ∧ Own w 0 (.slice (some ⟨g.1, 0, none⟩) d.size g.2) (Bk.lastB d i) := by
  subst e
  obtain ⟨g, hg⟩ := getElem?_some_of_lt (l := gs) (k := i) (by rw [h.glen, ho.len]; exact hi)
  have hc := OwnR.cell (eBk_ok d.size) h.last hg (j := 0) (u := .slice (some ⟨g.1, 0, none⟩) d.size g.2) rfl
  simp only [Nat.mul_one, Nat.add_zero] at hc
  exact ⟨g, hg, hc, h.last.free i, h.geach i g _ hg (ho.lastB hi).2⟩
theorem DiskP.waitCell (h : DiskP F w p d lv wv kv gs hs) {i : Nat} {z : Nat × Bk.Blk} (hz : d.waiting[i]? = some z) : ∃ wg wc g c, wv = .slice (some ⟨wg, 0, none⟩) d.waiting.length wc ∧ hs[i]? = some ((z.1 : Int), g, c) ∧ w.cell? ⟨wg, i * 2, none⟩ = some (.int .i64 (z.1 : Int)) ∧ w.cell? ⟨wg, i * 2 + 1, none⟩ = some (.slice (some ⟨g, 0, none⟩) d.size c) ∧ Own w 0 (.slice (some ⟨g, 0, none⟩) d.size c) z.2 := by
  have hi : i < hs.length := by rw [h.hlen]; exact (List.getElem?_eq_some_iff.1 hz).1
  obtain ⟨⟨x, g, c⟩, hx⟩ := getElem?_some_of_lt hi
  obtain ⟨e, ho⟩ := h.heach i _ z hx hz
  simp only at e
  subst e
  rcases h.wait.row with ⟨rfl, h0⟩ | ⟨wg, wc, h1, _⟩
  · rw [h0] at hi; simp at hi
  · subst h1
    have c0 := OwnR.cell (eWk_ok d.size) h.wait hx (j := 0) (u := .int .i64 (z.1 : Int)) rfl
    have c1 := OwnR.cell (eWk_ok d.size) h.wait hx (j := 1) (u := .slice (some ⟨g, 0, none⟩) d.size c) rfl
    simp only [Nat.add_zero] at c0 c1
    exact ⟨wg, wc, g, c, by rw [h.hlen], hx, c0, c1, ho⟩
end

set_option maxRecDepth 100000 in
theorem lasting_in {F : Nat → Prop} {w : World} {p n : Nat} {d : Bk.Disk} (hd : DiskAt F w p d) (ho : Bk.Ok n d) (i : Int) (h1 : 0 ≤ i) (h2 : i < d.blocks) (l : List UInt8) (hl : Bk.lastB d i.toNat = l) :
    Calls Tryd.prog 32 #[.pointer (some ⟨p, 0, none⟩), .int .i64 i] w fun e w' => GivesB w l e w' ∧ Below w.heap.size w w' := by
  obtain ⟨lv, wv, kv, gs, hs, hp⟩ := hd
  obtain ⟨lg, lc, elv, hlc, hcm⟩ := hp.lastRow ho
  obtain ⟨k, rfl⟩ : ∃ k : Nat, i = (k : Int) := ⟨i.toNat, by omega⟩
  have hk : k < d.blocks := by omega
  have hll : l.length = d.size := by rw [← hl]; exact (ho.lastB hk).1
  have hsz := ho.s
  obtain ⟨g, hg, hc, hf, hown⟩ := hp.lastCell ho elv hk
  simp only [Int.toNat_natCast] at hl
  rw [hl, ← hll] at hown
  rw [← hll] at hc
  obtain ⟨m0, -, m2, -, -, -, -, -, -, -, -⟩ := hp.box.eleven
  subst elv
  unfold maxLen at hcm
  have hlen : l.length ≤ 100000000 := by omega
  have HO := Lib.hid hown
  have k1 : (0 : Int) ≤ (k : Int) := by omega
  clear hown hp hf hg ho hll hl
  go_enter Tryd.func32, Tryd.ntmps32
  go_wp2_with (first
    | (go_at_call 66; refine (check_in p _ (k : Int) _ _ m0 h1 h2).mono ?_; rintro e w1 ⟨rfl, rfl⟩)
    | (go_at_call 58; refine (cloned_any _ l _ HO.out.bytes hlen).mono ?_; rintro e w2 ⟨⟨rfl, ho2⟩, hb2⟩))
  go_ret2
  exact ⟨⟨_, rfl, ho2⟩, hb2⟩
end Go.Proofs.YtflbioiildndoaaDoor
