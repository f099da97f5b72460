/- disks in memory: what a store, a copy, an append makes of the program's disk -/
import Derived.Test.YtflbioiildndoaaDoorDiskMem
import Derived.Test.YtflbioiildndoaaDoorNear
namespace Go.Proofs.YtflbioiildndoaaDoor
open Go.RowKit

theorem Beside.of_grown {F : Nat → Prop} {w w' : World} {p : Nat} (h : w.grownBy w' (some p)) (hp : F p) : Beside F w w' :=
  ⟨h.os, h.tape, h.output, h.size, fun k hk hn => h.block k hk (fun e => hn (by cases e; exact hp))⟩
theorem Beside.of_grownO {F : Nat → Prop} {w w' : World} {o : Option Nat} (h : w.grownBy w' o) (hp : ∀ k, o = some k → F k) : Beside F w w' :=
  ⟨h.os, h.tape, h.output, h.size, fun k hk hn => h.block k hk (fun e => hn (hp k e.symm))⟩
theorem Beside.step {F : Nat → Prop} {w w1 w2 : World} (h : Beside F w w1) (k : Beside F w1 w2) : Beside F w w2 := h.same k
theorem Beside.mono {F F' : Nat → Prop} {w w' : World} (h : Beside F w w') (hf : ∀ k, F k → F' k) : Beside F' w w' :=
  ⟨h.os, h.tape, h.output, h.size, fun k hk hn => h.block k hk (fun e => hn (hf k e))⟩
theorem grown_drew {w w' : World} {o : Option Nat} (h : w.grownBy w' o) : w.grownBy w'.drew o := ⟨h.os, h.tape, h.output, h.size, h.block⟩

section
variable {F : Nat → Prop} {w w' : World} {p : Nat} {d d' : Bk.Disk} {lv wv kv : Value} {gs : List (Nat × Nat)} {hs : List (Int × Nat × Nat)}

theorem DiskP.lt (h : DiskP F w p d lv wv kv gs hs) : ∀ k ∈ blocksD p lv wv kv gs hs, k < w.heap.size := by
  intro k hk
  unfold blocksD at hk
  simp only [List.mem_cons, List.mem_append, Option.mem_toList, List.mem_map] at hk
  rcases hk with rfl | hk | hk | hk | ⟨g, hg, rfl⟩ | ⟨g, hg, rfl⟩
  · exact h.box.lt
  · exact (h.last.lt k hk).2
  · exact (h.wait.lt k hk).2
  · exact (h.keep.lt k hk).2
  · obtain ⟨i, hi, hgi⟩ := List.mem_iff_getElem.1 hg
    have e1 : gs[i]? = some g := by rw [List.getElem?_eq_getElem hi, hgi]
    obtain ⟨b, hb⟩ := getElem?_some_of_lt (l := d.lasting) (k := i) (by rw [← h.glen]; exact hi)
    exact ((h.geach i g b e1 hb).lt g.1 rfl).2
  · obtain ⟨i, hi, hgi⟩ := List.mem_iff_getElem.1 hg
    have e1 : hs[i]? = some g := by rw [List.getElem?_eq_getElem hi, hgi]
    obtain ⟨b, hb⟩ := getElem?_some_of_lt (l := d.waiting) (k := i) (by rw [← h.hlen]; exact hi)
    exact ((h.heach i g b e1 hb).2.lt g.2.1 rfl).2
/-- the other blocks than the box -/
theorem DiskP.rest (h : DiskP F w p d lv wv kv gs hs) : ∀ k ∈ blocksD p lv wv kv gs hs, k = p ∨ (k ≠ p ∧ k ∈ lv.ownBlock.toList ++ (wv.ownBlock.toList ++ (kv.ownBlock.toList ++ (gs.map (·.1) ++ hs.map (·.2.1))))) := by
  intro k hk
  have hn := h.nodup
  unfold blocksD at hk hn
  rcases List.mem_cons.1 hk with e | e
  · exact .inl e
  · exact .inr ⟨fun e2 => (List.nodup_cons.1 hn).1 (e2 ▸ e), e⟩
theorem mem_rest_lv {k : Nat} (h : lv.ownBlock = some k) : k ∈ lv.ownBlock.toList ++ (wv.ownBlock.toList ++ (kv.ownBlock.toList ++ (gs.map (·.1) ++ hs.map (·.2.1)))) := by rw [h]; simp
theorem mem_rest_wv {k : Nat} (h : wv.ownBlock = some k) : k ∈ lv.ownBlock.toList ++ (wv.ownBlock.toList ++ (kv.ownBlock.toList ++ (gs.map (·.1) ++ hs.map (·.2.1)))) := by rw [h]; simp
theorem mem_rest_kv {k : Nat} (h : kv.ownBlock = some k) : k ∈ lv.ownBlock.toList ++ (wv.ownBlock.toList ++ (kv.ownBlock.toList ++ (gs.map (·.1) ++ hs.map (·.2.1)))) := by rw [h]; simp
theorem mem_rest_gs {i : Nat} {g : Nat × Nat} (h : gs[i]? = some g) : g.1 ∈ lv.ownBlock.toList ++ (wv.ownBlock.toList ++ (kv.ownBlock.toList ++ (gs.map (·.1) ++ hs.map (·.2.1)))) := by
  have : g.1 ∈ gs.map (·.1) := List.mem_map_of_mem (List.mem_of_getElem? h)
  exact List.mem_append_right _ (List.mem_append_right _ (List.mem_append_right _ (List.mem_append_left _ this)))
theorem mem_rest_hs {i : Nat} {g : Int × Nat × Nat} (h : hs[i]? = some g) : g.2.1 ∈ lv.ownBlock.toList ++ (wv.ownBlock.toList ++ (kv.ownBlock.toList ++ (gs.map (·.1) ++ hs.map (·.2.1)))) := by
  simp only [List.mem_append, List.mem_map]
  exact .inr (.inr (.inr (.inr ⟨g, List.mem_of_getElem? h, rfl⟩)))
theorem DiskP.ne_p (h : DiskP F w p d lv wv kv gs hs) {k : Nat} (hk : k ∈ lv.ownBlock.toList ++ (wv.ownBlock.toList ++ (kv.ownBlock.toList ++ (gs.map (·.1) ++ hs.map (·.2.1))))) : k ≠ p := by
  have hn := h.nodup
  unfold blocksD at hn
  exact fun e => (List.nodup_cons.1 hn).1 (e ▸ hk)
theorem nodup_inj {l : List Nat} (h : l.Nodup) {i j : Nat} {x : Nat} (h1 : l[i]? = some x) (h2 : l[j]? = some x) : i = j := by
  induction l generalizing i j with
  | nil => cases h1
  | cons y l ih =>
    have n := List.nodup_cons.1 h
    cases i with
    | zero =>
      cases j with
      | zero => rfl
      | succ j =>
        simp only [List.getElem?_cons_zero, Option.some.injEq, List.getElem?_cons_succ] at h1 h2
        subst h1
        exact absurd (List.mem_of_getElem? h2) n.1
    | succ i =>
      cases j with
      | zero =>
        simp only [List.getElem?_cons_zero, Option.some.injEq, List.getElem?_cons_succ] at h1 h2
        subst h2
        exact absurd (List.mem_of_getElem? h1) n.1
      | succ j =>
        simp only [List.getElem?_cons_succ] at h1 h2
        rw [ih n.2 h1 h2]
/-- the rows stay where the box alone is stored into -/
theorem DiskP.rebox (h : DiskP F w p d lv wv kv gs hs) (hg : w.grownBy w' (some p)) (hbox : BoxAt w' p (cellsD d' lv wv kv)) (e1 : d'.size = d.size) (e2 : d'.lasting = d.lasting) (e3 : d'.waiting = d.waiting) (e4 : d'.keep = d.keep) : DiskP F w' p d' lv wv kv gs hs := by
  have on : ∀ k ∈ lv.ownBlock.toList ++ (wv.ownBlock.toList ++ (kv.ownBlock.toList ++ (gs.map (·.1) ++ hs.map (·.2.1)))), w'.heap[k]? = w.heap[k]? := fun k hk =>
    hg.block k (h.lt k (by unfold blocksD; exact List.mem_cons_of_mem _ hk)) (by simpa using h.ne_p hk)
  refine ⟨hbox, ?_, ?_, ?_, by rw [e2]; exact h.glen, ?_, by rw [e3]; exact h.hlen, ?_, h.nodup, h.inF⟩
  · rw [e1]; exact h.last.on fun k hk => on k (mem_rest_lv hk)
  · rw [e1]; exact h.wait.on fun k hk => on k (mem_rest_wv hk)
  · rw [e4]; exact h.keep.on fun k hk => on k (mem_rest_kv hk)
  · intro i g b hgi hl
    rw [e2] at hl
    rw [e1]
    exact (h.geach i g b hgi hl).on fun k hk => by
      simp only [Value.ownBlock, Option.some.injEq] at hk
      subst hk; exact on _ (mem_rest_gs hgi)
  · intro i g z hgi hl
    rw [e3] at hl
    rw [e1]
    exact ⟨(h.heach i g z hgi hl).1, (h.heach i g z hgi hl).2.on fun k hk => by
      simp only [Value.ownBlock, Option.some.injEq] at hk
      subst hk; exact on _ (mem_rest_hs hgi)⟩
/-- what waits is struck -/
theorem DiskP.noWait (h : DiskP F w p d lv wv kv gs hs) (hg : w.grownBy w' (some p)) (hbox : BoxAt w' p (cellsD d' lv (.slice none 0 0) kv)) (e1 : d'.size = d.size) (e2 : d'.lasting = d.lasting) (e3 : d'.waiting = []) (e4 : d'.keep = d.keep) : DiskP F w' p d' lv (.slice none 0 0) kv gs [] := by
  have on : ∀ k ∈ lv.ownBlock.toList ++ (wv.ownBlock.toList ++ (kv.ownBlock.toList ++ (gs.map (·.1) ++ hs.map (·.2.1)))), w'.heap[k]? = w.heap[k]? := fun k hk =>
    hg.block k (h.lt k (by unfold blocksD; exact List.mem_cons_of_mem _ hk)) (by simpa using h.ne_p hk)
  have sub : (blocksD p lv (.slice none 0 0) kv gs []).Sublist (blocksD p lv wv kv gs hs) := by
    unfold blocksD
    refine List.Sublist.cons_cons _ (List.Sublist.append (List.Sublist.refl _) ?_)
    refine List.Sublist.append (by simp [Value.ownBlock]) (List.Sublist.append (List.Sublist.refl _) (List.Sublist.append (List.Sublist.refl _) (by simp)))
  refine ⟨hbox, ?_, OwnR.nil _ _ _, ?_, by rw [e2]; exact h.glen, ?_, by rw [e3]; rfl, fun i g z hgi _ => (by cases hgi), h.nodup.sublist sub, fun k hk => h.inF k (sub.subset hk)⟩
  · rw [e1]; exact h.last.on fun k hk => on k (mem_rest_lv hk)
  · rw [e4]; exact h.keep.on fun k hk => on k (mem_rest_kv hk)
  · intro i g b hgi hl
    rw [e2] at hl
    rw [e1]
    exact (h.geach i g b hgi hl).on fun k hk => by
      simp only [Value.ownBlock, Option.some.injEq] at hk
      subst hk; exact on _ (mem_rest_gs hgi)
/-- another row of bools is kept, new or none -/
theorem DiskP.newKeep (h : DiskP F w p d lv wv kv gs hs) {kv' : Value} (hg : w.grownBy w' (some p)) (hbox : BoxAt w' p (cellsD d' lv wv kv')) (e1 : d'.size = d.size) (e2 : d'.lasting = d.lasting) (e3 : d'.waiting = d.waiting) (hk : OwnR eBool w' 0 kv' d'.keep) (hnew : ∀ k, kv'.ownBlock = some k → w.heap.size ≤ k ∧ F k) : DiskP F w' p d' lv wv kv' gs hs := by
  have on : ∀ k ∈ lv.ownBlock.toList ++ (wv.ownBlock.toList ++ (kv.ownBlock.toList ++ (gs.map (·.1) ++ hs.map (·.2.1)))), w'.heap[k]? = w.heap[k]? := fun k hk =>
    hg.block k (h.lt k (by unfold blocksD; exact List.mem_cons_of_mem _ hk)) (by simpa using h.ne_p hk)
  have hn := h.nodup
  have hlt := h.lt
  have hF := h.inF
  have sub : (p :: (lv.ownBlock.toList ++ (wv.ownBlock.toList ++ ([] ++ (gs.map (·.1) ++ hs.map (·.2.1)))))).Sublist (blocksD p lv wv kv gs hs) := by
    unfold blocksD
    refine List.Sublist.cons_cons _ (List.Sublist.append (List.Sublist.refl _) (List.Sublist.append (List.Sublist.refl _) (List.Sublist.append (by simp) (List.Sublist.refl _))))
  have hn2 := hn.sublist sub
  refine ⟨hbox, ?_, ?_, hk, by rw [e2]; exact h.glen, ?_, by rw [e3]; exact h.hlen, ?_, ?_, ?_⟩
  · rw [e1]; exact h.last.on fun k hk => on k (mem_rest_lv hk)
  · rw [e1]; exact h.wait.on fun k hk => on k (mem_rest_wv hk)
  · intro i g b hgi hl
    rw [e2] at hl
    rw [e1]
    exact (h.geach i g b hgi hl).on fun k hk => by
      simp only [Value.ownBlock, Option.some.injEq] at hk
      subst hk; exact on _ (mem_rest_gs hgi)
  · intro i g z hgi hl
    rw [e3] at hl
    rw [e1]
    exact ⟨(h.heach i g z hgi hl).1, (h.heach i g z hgi hl).2.on fun k hk => by
      simp only [Value.ownBlock, Option.some.injEq] at hk
      subst hk; exact on _ (mem_rest_hs hgi)⟩
  · cases hkv : kv'.ownBlock with
    | none => unfold blocksD; rw [hkv]; exact hn2
    | some k =>
      have hk2 := (hnew k hkv).1
      have perm : (blocksD p lv wv kv' gs hs).Perm (k :: (p :: (lv.ownBlock.toList ++ (wv.ownBlock.toList ++ ([] ++ (gs.map (·.1) ++ hs.map (·.2.1))))))) := by
        unfold blocksD
        rw [hkv]
        simp only [Option.toList_some, List.nil_append, List.singleton_append]
        refine (List.Perm.cons _ ?_).trans (List.Perm.swap _ _ _)
        refine (List.Perm.append_left _ List.perm_middle).trans List.perm_middle
      refine perm.nodup_iff.2 (List.nodup_cons.2 ⟨fun hm => ?_, hn2⟩)
      have := hlt k (sub.subset hm)
      omega
  · intro k hk
    unfold blocksD at hk
    simp only [List.mem_cons, List.mem_append, Option.mem_toList] at hk
    rcases hk with rfl | hk | hk | hk | hk | hk
    · exact hF _ mem_p
    · exact hF _ (mem_lv hk)
    · exact hF _ (mem_wv hk)
    · exact (hnew k hk).2
    · exact hF k (by unfold blocksD; simp only [List.mem_cons, List.mem_append]; exact .inr (.inr (.inr (.inr (.inl hk)))))
    · exact hF k (by unfold blocksD; simp only [List.mem_cons, List.mem_append]; exact .inr (.inr (.inr (.inr (.inr hk)))))
/-- other bytes in a lasting block -/
theorem DiskP.setLast (h : DiskP F w p d lv wv kv gs hs) {i : Nat} {g : Nat × Nat} {b : Bk.Blk} (hgi : gs[i]? = some g) (hg : w.grownBy w' (some g.1)) (hb : Own w' 0 (.slice (some ⟨g.1, 0, none⟩) d.size g.2) b) : DiskP F w' p { d with lasting := d.lasting.set i b } lv wv kv gs hs := by
  have hn := h.nodup
  have hlt := h.lt
  have hi : i < gs.length := (List.getElem?_eq_some_iff.1 hgi).1
  have key : ∀ k ∈ blocksD p lv wv kv gs hs, k ≠ g.1 → w'.heap[k]? = w.heap[k]? := fun k hk hne => hg.block k (hlt k hk) (by simpa using hne)
  unfold blocksD at hn
  have n1 := List.nodup_cons.1 hn
  have n2 := List.nodup_append.1 n1.2
  have n3 := List.nodup_append.1 n2.2.1
  have n4 := List.nodup_append.1 n3.2.1
  have n5 := List.nodup_append.1 n4.2.1
  have mg : g.1 ∈ gs.map (·.1) := List.mem_map_of_mem (List.mem_of_getElem? hgi)
  have mg5 : g.1 ∈ gs.map (·.1) ++ hs.map (·.2.1) := List.mem_append_left _ mg
  have mg4 : g.1 ∈ kv.ownBlock.toList ++ (gs.map (·.1) ++ hs.map (·.2.1)) := List.mem_append_right _ mg5
  have mg3 : g.1 ∈ wv.ownBlock.toList ++ (kv.ownBlock.toList ++ (gs.map (·.1) ++ hs.map (·.2.1))) := List.mem_append_right _ mg4
  have mg2 : g.1 ∈ lv.ownBlock.toList ++ (wv.ownBlock.toList ++ (kv.ownBlock.toList ++ (gs.map (·.1) ++ hs.map (·.2.1)))) := List.mem_append_right _ mg3
  refine ⟨h.box.on (key p mem_p (fun e => n1.1 (e ▸ mg2))), h.last.on fun k hk => key k (mem_lv hk) ?_, h.wait.on fun k hk => key k (mem_wv hk) ?_, h.keep.on fun k hk => key k (mem_kv hk) ?_, by simpa using h.glen, ?_, h.hlen, ?_, h.nodup, h.inF⟩
  · exact n2.2.2 k (by simp [hk]) g.1 mg3
  · exact n3.2.2 k (by simp [hk]) g.1 mg4
  · exact n4.2.2 k (by simp [hk]) g.1 mg5
  · intro j g2 b2 hg2 hl2
    simp only [List.getElem?_set] at hl2
    by_cases hij : i = j
    · subst hij
      rw [hgi] at hg2
      cases hg2
      rw [if_pos rfl, if_pos (by rw [← h.glen]; exact hi)] at hl2
      cases hl2
      exact hb
    · rw [if_neg hij] at hl2
      refine (h.geach j g2 b2 hg2 hl2).on fun k hk => ?_
      simp only [Value.ownBlock, Option.some.injEq] at hk
      subst hk
      refine key _ (mem_gs hg2) fun e => hij ?_
      have e1 : (gs.map (·.1))[i]? = some g.1 := by rw [List.getElem?_map, hgi]; rfl
      have e2 : (gs.map (·.1))[j]? = some g.1 := by rw [List.getElem?_map, hg2, ← e]; rfl
      exact nodup_inj n5.1 e1 e2
  · intro j g2 z hg2 hl2
    refine ⟨(h.heach j g2 z hg2 hl2).1, (h.heach j g2 z hg2 hl2).2.on fun k hk => ?_⟩
    simp only [Value.ownBlock, Option.some.injEq] at hk
    subst hk
    exact key _ (mem_hs hg2) fun e => n5.2.2 g.1 mg g2.2.1 (List.mem_map_of_mem (List.mem_of_getElem? hg2)) e.symm
/-- the blocks of a disk, one by one -/
theorem nodup_parts : (blocksD p lv wv kv gs hs).Nodup ↔ (p ∉ lv.ownBlock.toList ++ (wv.ownBlock.toList ++ (kv.ownBlock.toList ++ (gs.map (·.1) ++ hs.map (·.2.1))))) ∧ (lv.ownBlock.toList ++ (wv.ownBlock.toList ++ (kv.ownBlock.toList ++ (gs.map (·.1) ++ hs.map (·.2.1))))).Nodup := by
  unfold blocksD; exact List.nodup_cons
/-- one write more -/
theorem DiskP.addWait (h : DiskP F w p d lv wv kv gs hs) {F' : Nat → Prop} {wv' : Value} {i : Nat} {g : Nat × Nat} {b : Bk.Blk}
    (on : ∀ k, k < w.heap.size → k ≠ p → wv.ownBlock ≠ some k → w'.heap[k]? = w.heap[k]?) (hbox : BoxAt w' p (cellsD d' lv wv' kv))
    (e1 : d'.size = d.size) (e2 : d'.lasting = d.lasting) (e3 : d'.waiting = d.waiting ++ [(i, b)]) (e4 : d'.keep = d.keep)
    (hw : OwnR (eWk d.size) w' 0 wv' (hs ++ [((i : Int), g)])) (near : wv'.ownBlock = wv.ownBlock ∨ ∀ k, wv'.ownBlock = some k → w.heap.size ≤ k)
    (hb : Own w' 0 (.slice (some ⟨g.1, 0, none⟩) d.size g.2) b) (hgn : w.heap.size ≤ g.1) (hne : wv'.ownBlock ≠ some g.1)
    (hF : ∀ k, F k → F' k) (hFg : F' g.1) (hFw : ∀ k, wv'.ownBlock = some k → F' k) : DiskP F' w' p d' lv wv' kv gs (hs ++ [((i : Int), g)]) := by
  have hn := h.nodup
  have hlt := h.lt
  have hF0 := h.inF
  have n0 := List.nodup_cons.1 hn
  have n2 := List.nodup_append.1 n0.2
  have n3 := List.nodup_append.1 n2.2.1
  have mw : ∀ k, wv.ownBlock = some k → k ∈ wv.ownBlock.toList := fun k hk => by simp [hk]
  -- what is in the other rows is not the row of writes
  have nlw : ∀ k ∈ lv.ownBlock.toList, wv.ownBlock ≠ some k := fun k hk e => n2.2.2 k hk k (List.mem_append_left _ (mw k e)) rfl
  have nrw : ∀ k ∈ kv.ownBlock.toList ++ (gs.map (·.1) ++ hs.map (·.2.1)), wv.ownBlock ≠ some k := fun k hk e => n3.2.2 k (mw k e) k hk rfl
  have key : ∀ k ∈ blocksD p lv wv kv gs hs, k ≠ p → wv.ownBlock ≠ some k → w'.heap[k]? = w.heap[k]? := fun k hk h1 h2 => on k (hlt k hk) h1 h2
  have r3 : ∀ k, k ∈ kv.ownBlock.toList ++ (gs.map (·.1) ++ hs.map (·.2.1)) → k ∈ blocksD p lv wv kv gs hs := fun k hk => by
    unfold blocksD; exact List.mem_cons_of_mem _ (List.mem_append_right _ (List.mem_append_right _ hk))
  have r3p : ∀ k, k ∈ kv.ownBlock.toList ++ (gs.map (·.1) ++ hs.map (·.2.1)) → k ≠ p := fun k hk => h.ne_p (List.mem_append_right _ (List.mem_append_right _ hk))
  have onR : ∀ k, k ∈ kv.ownBlock.toList ++ (gs.map (·.1) ++ hs.map (·.2.1)) → w'.heap[k]? = w.heap[k]? := fun k hk => key k (r3 k hk) (r3p k hk) (nrw k hk)
  have notnew : ∀ k ∈ blocksD p lv wv kv gs hs, wv.ownBlock ≠ some k → wv'.ownBlock ≠ some k := fun k hk h1 e => by
    rcases near with hnr | hnr
    · exact h1 (hnr ▸ e)
    · have := hnr k e; have := hlt k hk; omega
  refine ⟨hbox, ?_, by rw [e1]; exact hw, ?_, by rw [e2]; exact h.glen, ?_, by rw [e3]; simp [h.hlen], ?_, ?_, ?_⟩
  · rw [e1]; exact h.last.on fun k hk => key k (mem_lv hk) (h.ne_p (mem_rest_lv hk)) (nlw k (by simp [hk]))
  · rw [e4]; exact h.keep.on fun k hk => onR k (List.mem_append_left _ (by simp [hk]))
  · intro j g2 b2 hg2 hl2
    rw [e2] at hl2
    rw [e1]
    exact (h.geach j g2 b2 hg2 hl2).on fun k hk => by
      simp only [Value.ownBlock, Option.some.injEq] at hk
      subst hk
      exact onR _ (List.mem_append_right _ (List.mem_append_left _ (List.mem_map_of_mem (List.mem_of_getElem? hg2))))
  · intro j g2 z hg2 hl2
    rw [e3] at hl2
    rw [e1]
    rw [List.getElem?_append] at hg2 hl2
    rw [h.hlen] at hg2
    split at hg2
    · rename_i hj
      rw [if_pos hj] at hl2
      refine ⟨(h.heach j g2 z hg2 hl2).1, (h.heach j g2 z hg2 hl2).2.on fun k hk => ?_⟩
      simp only [Value.ownBlock, Option.some.injEq] at hk
      subst hk
      exact onR _ (List.mem_append_right _ (List.mem_append_right _ (List.mem_map_of_mem (f := fun x : Int × Nat × Nat => x.2.1) (List.mem_of_getElem? hg2))))
    · rename_i hj
      rw [if_neg hj] at hl2
      rw [List.getElem?_singleton] at hg2 hl2
      split at hg2
      · rename_i hj0
        rw [if_pos hj0] at hl2
        cases hg2; cases hl2
        exact ⟨rfl, hb⟩
      · cases hg2
  · -- no block twice
    have hgnew : ∀ k ∈ blocksD p lv wv kv gs hs, k ≠ g.1 := fun k hk e => by have := hlt k hk; omega
    have n0' : p ∉ lv.ownBlock.toList ++ (wv.ownBlock.toList ++ (kv.ownBlock.toList ++ (gs.map (·.1) ++ hs.map (·.2.1)))) := n0.1
    have n4 := List.nodup_append.1 n3.2.1
    have n5 := List.nodup_append.1 n4.2.1
    have pw : wv.ownBlock ≠ some p := fun e => n0' (List.mem_append_right _ (List.mem_append_left _ (mw p e)))
    have last : (gs.map (·.1) ++ (hs ++ [((i : Int), g)]).map (·.2.1)).Nodup := by
      rw [List.map_append, ← List.append_assoc]
      refine List.nodup_append.2 ⟨n4.2.1, by simp, fun a ha b hb2 => ?_⟩
      simp only [List.map_cons, List.map_nil, List.mem_singleton] at hb2
      subst hb2
      exact hgnew a (r3 a (List.mem_append_right _ ha))
    have memL : ∀ k, k ∈ gs.map (·.1) ++ (hs ++ [((i : Int), g)]).map (·.2.1) → k ∈ gs.map (·.1) ++ hs.map (·.2.1) ∨ k = g.1 := fun k hk => by
      rw [List.map_append, ← List.append_assoc] at hk
      rcases List.mem_append.1 hk with hk | hk
      · exact .inl hk
      · exact .inr (by simpa using hk)
    refine List.nodup_cons.2 ⟨fun hp => ?_, List.nodup_append.2 ⟨n2.1, List.nodup_append.2 ⟨?_, List.nodup_append.2 ⟨n4.1, last, fun a ha b hb2 => ?_⟩, fun a ha b hb2 => ?_⟩, fun a ha b hb2 => ?_⟩⟩
    · simp only [List.mem_append] at hp n0'
      rcases hp with hp | hp | hp | hp
      · exact n0' (.inl hp)
      · exact notnew p mem_p pw (by simpa using hp)
      · exact n0' (.inr (.inr (.inl hp)))
      · rcases memL p (List.mem_append.2 hp) with hp | hp
        · exact n0' (.inr (.inr (.inr (List.mem_append.1 hp))))
        · exact hgnew p mem_p hp
    · cases wv'.ownBlock <;> simp
    · rcases memL b hb2 with hb2 | rfl
      · exact n4.2.2 a ha b hb2
      · exact hgnew a (r3 a (List.mem_append_left _ ha))
    · have ha' : wv'.ownBlock = some a := by simpa using ha
      rcases List.mem_append.1 hb2 with hb2 | hb2
      · exact fun e => notnew b (r3 b (List.mem_append_left _ hb2)) (nrw b (List.mem_append_left _ hb2)) (e ▸ ha')
      · rcases memL b hb2 with hb2 | rfl
        · exact fun e => notnew b (r3 b (List.mem_append_right _ hb2)) (nrw b (List.mem_append_right _ hb2)) (e ▸ ha')
        · exact fun e => hne (e ▸ ha')
    · have ham : a ∈ blocksD p lv wv kv gs hs := by unfold blocksD; exact List.mem_cons_of_mem _ (List.mem_append_left _ ha)
      rcases List.mem_append.1 hb2 with hb2 | hb2
      · exact fun e => notnew a ham (nlw a ha) (by rw [e]; simpa using hb2)
      · rcases List.mem_append.1 hb2 with hb2 | hb2
        · exact n2.2.2 a ha b (List.mem_append_right _ (List.mem_append_left _ hb2))
        · rcases memL b hb2 with hb2 | rfl
          · exact n2.2.2 a ha b (List.mem_append_right _ (List.mem_append_right _ hb2))
          · exact hgnew a ham
  · intro k hk
    unfold blocksD at hk
    simp only [List.mem_cons, List.mem_append, Option.mem_toList, List.map_append, List.map_cons, List.map_nil, List.not_mem_nil, or_false] at hk
    rcases hk with rfl | hk | hk | hk | hk | hk | rfl
    · exact hF _ (hF0 _ mem_p)
    · exact hF _ (hF0 _ (mem_lv hk))
    · exact hFw k hk
    · exact hF _ (hF0 _ (mem_kv hk))
    · exact hF k (hF0 k (r3 k (List.mem_append_right _ (List.mem_append_left _ hk))))
    · exact hF k (hF0 k (r3 k (List.mem_append_right _ (List.mem_append_right _ hk))))
    · exact hFg
end
end Go.Proofs.YtflbioiildndoaaDoor
