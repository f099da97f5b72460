/- disks in memory: a new one, block by block; what a flush makes of one -/
import Derived.Test.YtflbioiildndoaaDoorDiskStep
namespace Go.Proofs.YtflbioiildndoaaDoor
open Go.RowKit

theorem nodup_set {l : List Nat} (h : l.Nodup) (i : Nat) {a : Nat} (ha : a ∉ l) : (l.set i a).Nodup := by
  induction l generalizing i with
  | nil => simp
  | cons x l ih =>
    have h1 := List.nodup_cons.1 h
    simp only [List.mem_cons, not_or] at ha
    cases i with
    | zero => exact List.nodup_cons.2 ⟨ha.2, h1.2⟩
    | succ j =>
      refine List.nodup_cons.2 ⟨fun hx => ?_, ih h1.2 j ha.2⟩
      rcases List.mem_or_eq_of_mem_set hx with hx | hx
      · exact h1.1 hx
      · exact ha.1 hx.symm

/-! ### a new disk -/
/-- behind k blocks -/
structure NewP (w0 wr : World) (p b s k : Nat) (lv : Value) (gs : List (Nat × Nat)) : Prop where
  box : BoxAt wr p (cellsD { Bk.new b s with lasting := List.replicate k (Bk.zeros s) } lv (.slice none 0 0) (.slice none 0 0))
  last : OwnR (eBk s) wr (p + 1) lv gs
  glen : gs.length = k
  each : ∀ (i : Nat) g, gs[i]? = some g → Own wr (p + 1) (.slice (some ⟨g.1, 0, none⟩) s g.2) (Bk.zeros s)
  nodup : (lv.ownBlock.toList ++ gs.map (·.1)).Nodup
  low : w0.heap.size ≤ p
  below : Below w0.heap.size w0 wr
theorem NewP.next {w0 wr w' : World} {p b s k : Nat} {lv lv' : Value} {gs : List (Nat × Nat)} (h : NewP w0 wr p b s k lv gs) {g : Nat × Nat}
    (on : ∀ i, i < wr.heap.size → i ≠ p → lv.ownBlock ≠ some i → w'.heap[i]? = wr.heap[i]?)
    (hbox : BoxAt w' p (cellsD { Bk.new b s with lasting := List.replicate (k + 1) (Bk.zeros s) } lv' (.slice none 0 0) (.slice none 0 0)))
    (hl : OwnR (eBk s) w' (p + 1) lv' (gs ++ [g])) (near : lv'.ownBlock = lv.ownBlock ∨ ∀ i, lv'.ownBlock = some i → wr.heap.size ≤ i)
    (hb : Own w' (p + 1) (.slice (some ⟨g.1, 0, none⟩) s g.2) (Bk.zeros s)) (hgn : wr.heap.size ≤ g.1) (hne : lv'.ownBlock ≠ some g.1) (hbel : Below w0.heap.size w0 w') : NewP w0 w' p b s (k + 1) lv' (gs ++ [g]) := by
  have lt : ∀ (i : Nat) (x : Nat × Nat), gs[i]? = some x → p + 1 ≤ x.1 ∧ x.1 < wr.heap.size := fun i x hx => (h.each i x hx).lt x.1 rfl
  have n1 := List.nodup_append.1 h.nodup
  have nin : ∀ x ∈ gs.map (·.1), lv.ownBlock ≠ some x := fun x hx e => n1.2.2 x (by simp [e]) x hx rfl
  have notg : ∀ x ∈ gs.map (·.1), x ≠ g.1 := fun x hx e => by
    obtain ⟨y, hy, rfl⟩ := List.mem_map.1 hx
    obtain ⟨i, hi, rfl⟩ := List.mem_iff_getElem.1 hy
    have := lt i _ (List.getElem?_eq_getElem hi)
    omega
  refine ⟨hbox, hl, by simp [h.glen], ?_, ?_, h.low, hbel⟩
  · intro i x hx
    rw [List.getElem?_append] at hx
    split at hx
    · refine (h.each i x hx).on fun j hj => ?_
      simp only [Value.ownBlock, Option.some.injEq] at hj
      subst hj
      have := lt i x hx
      exact on _ this.2 (by omega) (nin _ (List.mem_map_of_mem (List.mem_of_getElem? hx)))
    · rw [List.getElem?_singleton] at hx
      split at hx
      · cases hx; exact hb
      · cases hx
  · rw [List.map_append]
    refine List.nodup_append.2 ⟨by cases lv'.ownBlock <;> simp, ?_, fun a ha b hb2 => ?_⟩
    · refine List.nodup_append.2 ⟨n1.2.1, by simp, fun a ha b hb2 => ?_⟩
      simp only [List.map_cons, List.map_nil, List.mem_singleton] at hb2
      subst hb2; exact notg a ha
    · have ha' : lv'.ownBlock = some a := by simpa using ha
      rcases List.mem_append.1 hb2 with hb2 | hb2
      · rcases near with hnr | hnr
        · exact fun e => nin b hb2 (by rw [← hnr, ha', e])
        · have h1 := hnr a ha'
          obtain ⟨y, hy, rfl⟩ := List.mem_map.1 hb2
          obtain ⟨i, hi, rfl⟩ := List.mem_iff_getElem.1 hy
          have := lt i _ (List.getElem?_eq_getElem hi)
          omega
      · simp only [List.map_cons, List.map_nil, List.mem_singleton] at hb2
        subst hb2
        exact fun e => hne (e ▸ ha')
/-- a new disk is whole -/
theorem NewP.disk {w0 wr : World} {p b s : Nat} {lv : Value} {gs : List (Nat × Nat)} (h : NewP w0 wr p b s b lv gs) : DiskAt (fun k => w0.heap.size ≤ k ∧ k < wr.heap.size) wr p (Bk.new b s) := by
  have lt : ∀ (i : Nat) (x : Nat × Nat), gs[i]? = some x → p + 1 ≤ x.1 ∧ x.1 < wr.heap.size := fun i x hx => (h.each i x hx).lt x.1 rfl
  have low := h.low
  refine ⟨lv, .slice none 0 0, .slice none 0 0, gs, [], h.box, h.last.mono (Nat.zero_le _), OwnR.nil _ _ _, OwnR.nil _ _ _, by simp [Bk.new, h.glen], ?_, rfl, fun i x z hx _ => (by cases hx), ?_, ?_⟩
  · intro i x y hx hy
    simp only [Bk.new, List.getElem?_replicate] at hy
    split at hy
    · cases hy
      exact (h.each i x hx).mono (Nat.zero_le _)
    · cases hy
  · unfold blocksD
    simp only [show (Value.slice none 0 0).ownBlock = none from rfl, Option.toList_none, List.nil_append, List.map_nil, List.append_nil]
    refine List.nodup_cons.2 ⟨fun hp => ?_, h.nodup⟩
    rcases List.mem_append.1 hp with hp | hp
    · have := (h.last.lt p (by simpa using hp)).1; omega
    · obtain ⟨y, hy, e⟩ := List.mem_map.1 hp
      obtain ⟨i, hi, rfl⟩ := List.mem_iff_getElem.1 hy
      have := lt i _ (List.getElem?_eq_getElem hi)
      omega
  · intro k hk
    unfold blocksD at hk
    simp only [show (Value.slice none 0 0).ownBlock = none from rfl, Option.toList_none, List.nil_append, List.map_nil, List.append_nil, List.mem_cons, List.mem_append, Option.mem_toList] at hk
    rcases hk with rfl | hk | hk
    · exact ⟨low, h.box.lt⟩
    · have := h.last.lt k hk
      exact ⟨by omega, this.2⟩
    · obtain ⟨y, hy, rfl⟩ := List.mem_map.1 hk
      obtain ⟨i, hi, rfl⟩ := List.mem_iff_getElem.1 hy
      have := lt i _ (List.getElem?_eq_getElem hi)
      exact ⟨by omega, this.2⟩

/-! ### a flush -/
/-- where the lasting blocks lie behind the first k of what waits -/
def gsK (hs : List (Int × Nat × Nat)) (gs : List (Nat × Nat)) : Nat → List (Nat × Nat)
  | 0 => gs
  | k + 1 => match hs[k]? with | some x => (gsK hs gs k).set x.1.toNat x.2 | none => gsK hs gs k
theorem gsK_succ {hs : List (Int × Nat × Nat)} {gs : List (Nat × Nat)} {k : Nat} {x : Int × Nat × Nat} (h : hs[k]? = some x) : gsK hs gs (k + 1) = (gsK hs gs k).set x.1.toNat x.2 := by rw [gsK, h]
theorem gsK_length (hs : List (Int × Nat × Nat)) (gs : List (Nat × Nat)) : ∀ k, (gsK hs gs k).length = gs.length
  | 0 => rfl
  | k + 1 => by
    rw [gsK]; split
    · rw [List.length_set, gsK_length hs gs k]
    · exact gsK_length hs gs k
theorem gsK_mem (hs : List (Int × Nat × Nat)) (gs : List (Nat × Nat)) : ∀ k, ∀ y ∈ (gsK hs gs k).map (·.1), y ∈ gs.map (·.1) ∨ ∃ j x, j < k ∧ hs[j]? = some x ∧ x.2.1 = y
  | 0, y, hy => .inl hy
  | k + 1, y, hy => by
    rw [gsK] at hy
    split at hy
    · rename_i x hx
      rw [List.map_set] at hy
      rcases List.mem_or_eq_of_mem_set hy with hy | hy
      · rcases gsK_mem hs gs k y hy with h | ⟨j, z, h1, h2⟩
        · exact .inl h
        · exact .inr ⟨j, z, by omega, h2⟩
      · exact .inr ⟨k, x, by omega, hx, hy.symm⟩
    · rcases gsK_mem hs gs k y hy with h | ⟨j, z, h1, h2⟩
      · exact .inl h
      · exact .inr ⟨j, z, by omega, h2⟩
theorem gsK_nodup {hs : List (Int × Nat × Nat)} {gs : List (Nat × Nat)} (h : (gs.map (·.1) ++ hs.map (·.2.1)).Nodup) : ∀ k, ((gsK hs gs k).map (·.1)).Nodup
  | 0 => (List.nodup_append.1 h).1
  | k + 1 => by
    have ih := gsK_nodup h k
    rw [gsK]; split
    · rename_i x hx
      rw [List.map_set]
      refine nodup_set ih _ fun hm => ?_
      have n := List.nodup_append.1 h
      have mx : x.2.1 ∈ hs.map (·.2.1) := List.mem_map_of_mem (f := fun x : Int × Nat × Nat => x.2.1) (List.mem_of_getElem? hx)
      rcases gsK_mem hs gs k _ hm with h1 | ⟨j, z, hj, hz, e⟩
      · exact n.2.2 _ h1 _ mx rfl
      · have e1 : (hs.map (·.2.1))[k]? = some x.2.1 := by rw [List.getElem?_map, hx]; rfl
        have e2 : (hs.map (·.2.1))[j]? = some x.2.1 := by rw [List.getElem?_map, hz, ← e]; rfl
        have := nodup_inj n.2.1 e2 e1
        omega
    · exact ih
section
variable {F : Nat → Prop} {w w' : World} {p : Nat} {d d' : Bk.Disk} {lv wv kv : Value} {gs : List (Nat × Nat)} {hs : List (Int × Nat × Nat)}
theorem DiskP.gsK_each (h : DiskP F w p d lv wv kv gs hs) : ∀ k, k ≤ hs.length → ∀ (i : Nat) g b, (gsK hs gs k)[i]? = some g → (Bk.allK d.waiting d.lasting k)[i]? = some b → Own w 0 (.slice (some ⟨g.1, 0, none⟩) d.size g.2) b
  | 0, _, i, g, b, hg, hb => h.geach i g b hg hb
  | k + 1, hk, i, g, b, hg, hb => by
    have ih := h.gsK_each k (by omega)
    obtain ⟨x, hx⟩ := getElem?_some_of_lt (show k < hs.length by omega)
    obtain ⟨z, hz⟩ := getElem?_some_of_lt (show k < d.waiting.length by rw [← h.hlen]; omega)
    obtain ⟨e, ho⟩ := h.heach k x z hx hz
    rw [gsK_succ hx] at hg
    rw [Bk.allK, hz] at hb
    simp only at hb
    have e2 : x.1.toNat = z.1 := by omega
    rw [e2] at hg
    rw [List.getElem?_set] at hg hb
    by_cases hi : z.1 = i
    · rw [if_pos hi] at hg hb
      split at hg
      · split at hb
        · cases hg; cases hb; exact ho
        · cases hb
      · cases hg
    · rw [if_neg hi] at hg hb
      exact ih i g b hg hb
theorem allK_length (q : List (Nat × Bk.Blk)) (l : List Bk.Blk) : ∀ k, (Bk.allK q l k).length = l.length
  | 0 => rfl
  | k + 1 => by
    rw [Bk.allK]; split
    · rw [List.length_set, allK_length q l k]
    · exact allK_length q l k
/-- what waited lasts -/
theorem DiskP.flushed (h : DiskP F w p d lv wv kv gs hs) (on : ∀ k, k < w.heap.size → k ≠ p → lv.ownBlock ≠ some k → w'.heap[k]? = w.heap[k]?)
    (hbox : BoxAt w' p (cellsD d' lv (.slice none 0 0) kv)) (hl : OwnR (eBk d.size) w' 0 lv (gsK hs gs hs.length))
    (e1 : d'.size = d.size) (e2 : d'.lasting = Bk.allK d.waiting d.lasting d.waiting.length) (e3 : d'.waiting = []) (e4 : d'.keep = d.keep) : DiskP F w' p d' lv (.slice none 0 0) kv (gsK hs gs hs.length) [] := by
  have hlt := h.lt
  have n0 := List.nodup_cons.1 h.nodup
  have n2 := List.nodup_append.1 n0.2
  have n3 := List.nodup_append.1 n2.2.1
  have n4 := List.nodup_append.1 n3.2.1
  have ml : ∀ k, lv.ownBlock = some k → k ∈ lv.ownBlock.toList := fun k hk => by simp [hk]
  have key : ∀ k ∈ kv.ownBlock.toList ++ (gs.map (·.1) ++ hs.map (·.2.1)), w'.heap[k]? = w.heap[k]? := fun k hk => by
    have m1 : k ∈ wv.ownBlock.toList ++ (kv.ownBlock.toList ++ (gs.map (·.1) ++ hs.map (·.2.1))) := List.mem_append_right _ hk
    have m2 : k ∈ lv.ownBlock.toList ++ (wv.ownBlock.toList ++ (kv.ownBlock.toList ++ (gs.map (·.1) ++ hs.map (·.2.1)))) := List.mem_append_right _ m1
    exact on k (hlt k (List.mem_cons_of_mem _ m2)) (h.ne_p m2) (fun e => n2.2.2 k (ml k e) k m1 rfl)
  have mem : ∀ y ∈ (gsK hs gs hs.length).map (·.1), y ∈ gs.map (·.1) ++ hs.map (·.2.1) := fun y hy => by
    rcases gsK_mem hs gs _ y hy with h1 | ⟨j, x, _, hx, rfl⟩
    · exact List.mem_append_left _ h1
    · exact List.mem_append_right _ (List.mem_map_of_mem (f := fun x : Int × Nat × Nat => x.2.1) (List.mem_of_getElem? hx))
  refine ⟨hbox, by rw [e1]; exact hl, OwnR.nil _ _ _, ?_, by rw [e2, allK_length, gsK_length, h.glen], ?_, by rw [e3]; rfl, fun i x z hx _ => (by cases hx), ?_, ?_⟩
  · rw [e4]; exact h.keep.on fun k hk => key k (List.mem_append_left _ (by simp [hk]))
  · intro i g b hg hb
    rw [e2, ← h.hlen] at hb
    rw [e1]
    refine (h.gsK_each _ (Nat.le_refl _) i g b hg hb).on fun k hk => ?_
    simp only [Value.ownBlock, Option.some.injEq] at hk
    subst hk
    exact key _ (List.mem_append_right _ (mem _ (List.mem_map_of_mem (f := fun x : Nat × Nat => x.1) (List.mem_of_getElem? hg))))
  · unfold blocksD
    simp only [show (Value.slice none 0 0).ownBlock = none from rfl, Option.toList_none, List.nil_append, List.map_nil, List.append_nil]
    refine List.nodup_cons.2 ⟨fun hp => ?_, List.nodup_append.2 ⟨n2.1, List.nodup_append.2 ⟨n4.1, gsK_nodup n4.2.1 _, fun a ha b hb => n4.2.2 a ha b (mem b hb)⟩, fun a ha b hb => ?_⟩⟩
    · refine n0.1 ?_
      rcases List.mem_append.1 hp with hp | hp
      · exact List.mem_append_left _ hp
      · rcases List.mem_append.1 hp with hp | hp
        · exact List.mem_append_right _ (List.mem_append_right _ (List.mem_append_left _ hp))
        · exact List.mem_append_right _ (List.mem_append_right _ (List.mem_append_right _ (mem p hp)))
    · rcases List.mem_append.1 hb with hb | hb
      · exact n2.2.2 a ha b (List.mem_append_right _ (List.mem_append_left _ hb))
      · exact n2.2.2 a ha b (List.mem_append_right _ (List.mem_append_right _ (mem b hb)))
  · intro k hk
    unfold blocksD at hk
    simp only [show (Value.slice none 0 0).ownBlock = none from rfl, Option.toList_none, List.nil_append, List.map_nil, List.append_nil, List.mem_cons, List.mem_append, Option.mem_toList] at hk
    rcases hk with rfl | hk | hk | hk
    · exact h.inF _ mem_p
    · exact h.inF _ (mem_lv hk)
    · exact h.inF _ (mem_kv hk)
    · have := mem k hk
      refine h.inF k (List.mem_cons_of_mem _ (List.mem_append_right _ (List.mem_append_right _ (List.mem_append_right _ this))))
end
end Go.Proofs.YtflbioiildndoaaDoor
