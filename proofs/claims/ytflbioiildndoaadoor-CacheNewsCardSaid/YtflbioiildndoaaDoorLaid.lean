/- what a row's list of variables gives: the nine sentinels lie there, apart from each other; and a world in which they do -/
import Derived.Test.YtflbioiildndoaaDoorRows
import Derived.Test.YtflbioiildndoaaDoorSent
import Derived.LaidLaws
import Derived.ProofKit
namespace Go.Proofs.YtflbioiildndoaaDoor
open Go.RowKit Go.ChangeShapes

theorem Tryd.star : "*" ++ "errors.errorString" = "*errors.errorString" := by decide
theorem rowSent (u : TypeId) (h : Tryd.prog.typeName? 3 u = some "*errors.errorString") : u = 171 :=
  typeName_ptr_named (nm := "errors.errorString") (by rw [Tryd.star]; kernel_rfl) (by kernel_rfl) (by decide) u (by rw [Tryd.star]; exact h)
theorem cellsErrStr : Tryd.prog.cellsOf 195 = 1 := by kernel_rfl
theorem cellsStr : Tryd.prog.cellsOf 9 = 1 := by kernel_rfl

/-- a sentinel, read through -/
def IsSent (x : String × DataW Unit) : Prop := (∃ text, x.2 = .iface "*errors.errorString" (.ptr (.agg [.lit (.string text)]))) ∧ ∃ g, Tryd.prog.globalNamed x.1 = some g ∧ (Tryd.prog.globals[g]?).map (·.type) = some 26

set_option maxRecDepth 20000 in
theorem laid_all {W : World} : ∀ (L : List (String × DataW Unit)) (ps : List MemPlace), DataW.LaidVars Tryd.prog W L ps → ps.Nodup →
    (∀ b off, MemPlace.cell b off ∈ ps → (∃ c t, W.heap[b]? = some (.cells c t (0, 0))) ∧ ∀ u v, W.cell? ⟨b, off, none⟩ = some (.iface u v) → Value.okWide Tryd.prog W .any 0 u v) →
    (∀ x ∈ L, IsSent x) →
    ∃ ad : List Addr, ad.length = L.length ∧ ad.Nodup ∧ (∀ a ∈ ad, MemPlace.cell a.block a.off ∈ ps) ∧
      ∀ (i : Nat) x a, L[i]? = some x → ad[i]? = some a → (∃ g, Tryd.prog.globalNamed x.1 = some g ∧ W.cell? ⟨g, 0, none⟩ = some (.iface 171 (.pointer (some a)))) ∧ ∃ c t, W.heap[a.block]? = some (.cells c t (0, 0))
  | [], ps, _, _, _, _ => ⟨[], rfl, List.nodup_nil, fun _ h => (by cases h), fun i x a h _ => (by simp at h)⟩
  | (n, d) :: L, ps, hv, hnd, hrows, hs => by
    obtain ⟨g0, t0, cs0, f0, p0, q0, hg0, ht0, hv0, hd0, hq, e0⟩ := hv
    subst e0
    obtain ⟨⟨text, hd⟩, g, hg, ht⟩ := hs (n, d) List.mem_cons_self
    simp only at hd hg
    subst hd
    obtain rfl := Option.some.inj (hg.symm.trans hg0)
    obtain rfl := Option.some.inj (ht.symm.trans ht0)
    obtain ⟨l0⟩ := cs0
    have ok0 : ∀ u v, l0 = [.iface u v] → Value.okWide Tryd.prog W .any 0 u v := fun u v e => by
      subst e
      exact (hrows g 0 (by simp [MemPlace.row])).2 u v (by simpa using World.var?_cell hg0 hv0 0)
    obtain ⟨a0, s0, rfl, hc0, hs0, hz0, rfl⟩ := errorString_of_trod Tryd.underlying26 rowSent Tryd.underlying171 Tryd.underlying195 rfl rfl Tryd.underlying9 cellsErrStr cellsStr hd0 ok0
    have hspot : a0.spot = none := World.cell?_spot hc0
    obtain ⟨ad, h1, h2, h3, h4⟩ := laid_all L q0 hq (List.Nodup.sublist (List.sublist_append_right _ _) hnd) (fun b off hm => hrows b off (List.mem_append_right _ hm)) (fun x hx => hs x (List.mem_cons_of_mem _ hx))
    have hmem : MemPlace.cell a0.block a0.off ∈ MemPlace.row a0 1 := by simp [MemPlace.row]
    refine ⟨a0 :: ad, by simp [h1], List.nodup_cons.2 ⟨fun hin => ?_, h2⟩, ?_, ?_⟩
    · have hq2 := h3 a0 hin
      have := (List.nodup_append.1 hnd).2.2 _ (List.mem_append_right _ hmem) _ hq2
      exact this rfl
    · intro a ha
      rcases List.mem_cons.1 ha with rfl | ha
      · exact List.mem_append_left _ (List.mem_append_right _ hmem)
      · exact List.mem_append_right _ (h3 a ha)
    · intro i x a hx ha
      cases i with
      | zero =>
        simp at hx ha
        subst hx ha
        refine ⟨⟨g, hg, by simpa using World.var?_cell hg0 hv0 0⟩, ?_⟩
        exact (hrows a0.block a0.off (List.mem_append_left _ (List.mem_append_right _ hmem))).1
      | succ i => exact h4 i x a (by simpa using hx) (by simpa using ha)

/-- the codes of a list -/
def OnList (ks : List Nat) (k : Nat) : Prop := k ∈ ks
instance : Has (OnList [1, 2]) 1 := ⟨by unfold OnList; decide⟩
instance : Has (OnList [1, 2]) 2 := ⟨by unfold OnList; decide⟩
instance : Has (OnList [1, 2, 5]) 1 := ⟨by unfold OnList; decide⟩
instance : Has (OnList [1, 2, 5]) 2 := ⟨by unfold OnList; decide⟩
instance : Has (OnList [1, 2, 5]) 5 := ⟨by unfold OnList; decide⟩
instance : Has (OnList [1, 2, 3, 5, 7]) 1 := ⟨by unfold OnList; decide⟩
instance : Has (OnList [1, 2, 3, 5, 7]) 2 := ⟨by unfold OnList; decide⟩
instance : Has (OnList [1, 2, 3, 5, 7]) 3 := ⟨by unfold OnList; decide⟩
instance : Has (OnList [1, 2, 3, 5, 7]) 5 := ⟨by unfold OnList; decide⟩
instance : Has (OnList [1, 2, 3, 5, 7]) 7 := ⟨by unfold OnList; decide⟩
theorem sents_of_list {W : World} {L : List (String × DataW Unit)} (hL : laidMet Tryd.prog L W) (hS : ∀ x ∈ L, IsSent x) (ks : List Nat) (_hnd : ks.Nodup)
    (hN : L.map (fun x => Tryd.prog.globalNamed x.1) = ks.map fun k => some (sentG k)) : ∃ A, SentsOn (OnList ks) W A := by
  obtain ⟨ps, hv, hndp, hrows⟩ := hL
  obtain ⟨ad, h1, h2, h3, h4⟩ := laid_all L ps hv hndp hrows hS
  have hlen : L.length = ks.length := by simpa using congrArg List.length hN
  have key : ∀ (i k : Nat), ks[i]? = some k → ∃ a, ad[i]? = some a ∧ W.cell? ⟨sentG k, 0, none⟩ = some (.iface 171 (.pointer (some a))) ∧ ∃ c t, W.heap[a.block]? = some (.cells c t (0, 0)) := by
    intro i k hk
    have hi := (List.getElem?_eq_some_iff.1 hk).1
    obtain ⟨a, ha⟩ := getElem?_some_of_lt (show i < ad.length by omega)
    obtain ⟨x, hx⟩ := getElem?_some_of_lt (show i < L.length by omega)
    obtain ⟨⟨g, hg, hc⟩, hr⟩ := h4 i x a hx ha
    have hgk : g = sentG k := by
      have e := congrArg (fun l => l[i]?) hN
      simp only [List.getElem?_map, hx, Option.map_some, hg, hk] at e
      simpa using e
    subst hgk
    exact ⟨a, ha, hc, hr⟩
  have idx : ∀ k, k ∈ ks → ks[ks.idxOf k]? = some k := fun k hk => by
    have := List.idxOf_lt_length_of_mem hk
    rw [List.getElem?_eq_getElem this, List.getElem_idxOf]
  refine ⟨fun k => (ad[ks.idxOf k]?).getD default, ⟨fun k hk => ?_, fun k hk => ?_, fun j k hj hk e => ?_⟩⟩
  · obtain ⟨a, ha, hc, _⟩ := key _ k (idx k hk)
    simp only [ha, Option.getD_some]
    exact hc
  · obtain ⟨a, ha, _, hr⟩ := key _ k (idx k hk)
    simp only [ha, Option.getD_some]
    exact hr
  · obtain ⟨a, ha, _, _⟩ := key _ j (idx j hj)
    obtain ⟨b, hb, _, _⟩ := key _ k (idx k hk)
    simp only [ha, hb, Option.getD_some] at e
    subst e
    have hlt := (List.getElem?_eq_some_iff.1 ha).1
    have e2 := (List.getElem?_inj hlt h2).1 (ha.trans hb.symm)
    have h5 := idx j hj
    rw [e2, idx k hk] at h5
    exact (Option.some.inj h5).symm
/-- the nine, in the order of their codes -/
theorem sents_of_nine {W : World} {L : List (String × DataW Unit)} (hL : laidMet Tryd.prog L W) (hS : ∀ x ∈ L, IsSent x)
    (hN : L.map (fun x => Tryd.prog.globalNamed x.1) = [some (sentG 1), some (sentG 2), some (sentG 3), some (sentG 4), some (sentG 5), some (sentG 6), some (sentG 7), some (sentG 8), some (sentG 9)]) : ∃ A, Sents W A := by
  obtain ⟨A, hA⟩ := sents_of_list hL hS [1, 2, 3, 4, 5, 6, 7, 8, 9] (by decide) hN
  have h9 : ∀ k, Nine k → OnList [1, 2, 3, 4, 5, 6, 7, 8, 9] k := fun k h => by
    unfold Nine at h
    unfold OnList
    simp
    omega
  exact ⟨A, fun k hk => hA.cellOn k (h9 k hk), fun k hk => hA.rowOn k (h9 k hk), fun j k hj hk => hA.injOn j k (h9 j hj) (h9 k hk)⟩

/-! ### a world for the witness -/
abbrev str (l : List UInt8) : ByteArray := ⟨l.toArray⟩
noncomputable def low : Nat := (World.holding Tryd.prog default ⟨#[], #[], []⟩).heap.size
noncomputable def laidWorld (os : Os) : World :=
  let w0 := World.holding Tryd.prog os ⟨#[.cells #[.string (str [102, 111, 114, 109])] 195, .cells #[.string (str [114, 97, 110, 103, 101])] 195, .cells #[.string (str [102, 117, 108, 108])] 195,
    .cells #[.string (str [110, 111, 110, 101])] 195, .cells #[.string (str [99, 111, 114, 114, 117, 112, 116])] 195, .cells #[.string (str [102, 117, 101, 108])] 195,
    .cells #[.string (str [115, 116, 97, 116, 101])] 195, .cells #[.string (str [108, 111, 110, 103])] 195, .cells #[.string (str [116, 119, 105, 99, 101])] 195], #[], []⟩
  { w0 with heap := [1, 2, 3, 4, 5, 6, 7, 8, 9].foldl (fun h k => h.modify (sentG k) fun
      | .cells _ t frozen => .cells #[.iface 171 (.pointer (some ⟨low + (k - 1), 0, none⟩))] t frozen
      | o => o) w0.heap }
end Go.Proofs.YtflbioiildndoaaDoor
