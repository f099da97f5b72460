/- what a row's list of variables gives: the nine sentinels lie there, apart from each other; and a world in which they do -/
import Derived.Test.YtlkpdehajkffaaaDoorRows
import Derived.Test.YtlkpdehajkffaaaDoorSent
import Derived.LaidLaws
import Derived.ProofKit
namespace Go.Proofs.YtlkpdehajkffaaaDoor
open Go.RowKit Go.ChangeShapes

theorem Tryd.star : "*" ++ "errors.errorString" = "*errors.errorString" := by decide
theorem rowSent (u : TypeId) (h : Tryd.prog.typeName? 3 u = some "*errors.errorString") : u = 90 :=
  typeName_ptr_named (nm := "errors.errorString") (by rw [Tryd.star]; kernel_rfl) (by kernel_rfl) (by decide) u (by rw [Tryd.star]; exact h)
theorem cellsErrStr : Tryd.prog.cellsOf 115 = 1 := by kernel_rfl
theorem cellsStr : Tryd.prog.cellsOf 9 = 1 := by kernel_rfl

/-- a sentinel, read through -/
def IsSent (x : String × DataW Unit) : Prop := (∃ text, x.2 = .iface "*errors.errorString" (.ptr (.agg [.lit (.string text)]))) ∧ ∃ g, Tryd.prog.globalNamed x.1 = some g ∧ (Tryd.prog.globals[g]?).map (·.type) = some 24

set_option maxRecDepth 20000 in
theorem laid_all {W : World} : ∀ (L : List (String × DataW Unit)) (ps : List MemPlace), DataW.LaidVars Tryd.prog W L ps → ps.Nodup →
    (∀ b off, MemPlace.cell b off ∈ ps → (∃ c t, W.heap[b]? = some (.cells c t (0, 0))) ∧ ∀ u v, W.cell? ⟨b, off, none⟩ = some (.iface u v) → Value.okWide Tryd.prog W .any 0 u v) →
    (∀ x ∈ L, IsSent x) →
    ∃ ad : List Addr, ad.length = L.length ∧ ad.Nodup ∧ (∀ a ∈ ad, MemPlace.cell a.block a.off ∈ ps) ∧
      ∀ (i : Nat) x a, L[i]? = some x → ad[i]? = some a → (∃ g, Tryd.prog.globalNamed x.1 = some g ∧ W.cell? ⟨g, 0, none⟩ = some (.iface 90 (.pointer (some a)))) ∧ ∃ c t, W.heap[a.block]? = some (.cells c t (0, 0))
  | [], ps, _, _, _, _ => ⟨[], rfl, List.nodup_nil, fun _ h => (by cases h), fun i x a h _ => (by simp at h)⟩
  | (n, d) :: L, ps, hv, hnd, hrows, hs => by
    obtain ⟨g0, t0, cs0, f0, p0, q0, hg0, ht0, hv0, hd0, hq, e0⟩ := hv
    subst e0
    obtain ⟨⟨text, hd⟩, g, hg, ht⟩ := hs (n, d) List.mem_cons_self
    simp only at hd hg
    subst hd
    obtain rfl := Option.some.inj (hg.symm.trans hg0)
    obtain rfl := Option.some.inj (ht.symm.trans ht0)
    obtain ⟨l0⟩ := cs0
    have ok0 : ∀ u v, l0 = [.iface u v] → Value.okWide Tryd.prog W .any 0 u v := fun u v e => by
      subst e
      exact (hrows g 0 (by simp [MemPlace.row])).2 u v (by simpa using World.var?_cell hg0 hv0 0)
    obtain ⟨a0, s0, rfl, hc0, hs0, hz0, rfl⟩ := errorString_of_trod Tryd.underlying24 rowSent Tryd.underlying90 Tryd.underlying115 rfl rfl Tryd.underlying9 cellsErrStr cellsStr hd0 ok0
    have hspot : a0.spot = none := World.cell?_spot hc0
    obtain ⟨ad, h1, h2, h3, h4⟩ := laid_all L q0 hq (List.Nodup.sublist (List.sublist_append_right _ _) hnd) (fun b off hm => hrows b off (List.mem_append_right _ hm)) (fun x hx => hs x (List.mem_cons_of_mem _ hx))
    have hmem : MemPlace.cell a0.block a0.off ∈ MemPlace.row a0 1 := by simp [MemPlace.row]
    refine ⟨a0 :: ad, by simp [h1], List.nodup_cons.2 ⟨fun hin => ?_, h2⟩, ?_, ?_⟩
    · have hq2 := h3 a0 hin
      have := (List.nodup_append.1 hnd).2.2 _ (List.mem_append_right _ hmem) _ hq2
      exact this rfl
    · intro a ha
      rcases List.mem_cons.1 ha with rfl | ha
      · exact List.mem_append_left _ (List.mem_append_right _ hmem)
      · exact List.mem_append_right _ (h3 a ha)
    · intro i x a hx ha
      cases i with
      | zero =>
        simp at hx ha
        subst hx ha
        refine ⟨⟨g, hg, by simpa using World.var?_cell hg0 hv0 0⟩, ?_⟩
        exact (hrows a0.block a0.off (List.mem_append_left _ (List.mem_append_right _ hmem))).1
      | succ i => exact h4 i x a (by simpa using hx) (by simpa using ha)

/-- the nine, in the order of their codes -/
theorem sents_of_nine {W : World} {L : List (String × DataW Unit)} (hL : laidMet Tryd.prog L W) (hS : ∀ x ∈ L, IsSent x)
    (hN : L.map (fun x => Tryd.prog.globalNamed x.1) = [some (sentG 1), some (sentG 2), some (sentG 3), some (sentG 4), some (sentG 5), some (sentG 6), some (sentG 7), some (sentG 8), some (sentG 9)]) : ∃ A, Sents W A := by
  obtain ⟨ps, hv, hnd, hrows⟩ := hL
  obtain ⟨ad, h1, h2, h3, h4⟩ := laid_all L ps hv hnd hrows hS
  have hlen : L.length = 9 := by simpa using congrArg List.length hN
  have key : ∀ k, 1 ≤ k → k ≤ 9 → ∃ a, ad[k - 1]? = some a ∧ W.cell? ⟨sentG k, 0, none⟩ = some (.iface 90 (.pointer (some a))) ∧ ∃ c t, W.heap[a.block]? = some (.cells c t (0, 0)) := by
    intro k hk1 hk9
    obtain ⟨a, ha⟩ := getElem?_some_of_lt (show k - 1 < ad.length by omega)
    obtain ⟨x, hx⟩ := getElem?_some_of_lt (show k - 1 < L.length by omega)
    obtain ⟨⟨g, hg, hc⟩, hr⟩ := h4 (k - 1) x a hx ha
    have hgk : g = sentG k := by
      have e := congrArg (fun l => l[k - 1]?) hN
      simp only [List.getElem?_map, hx, Option.map_some, hg] at e
      have : ∀ k, 1 ≤ k → k ≤ 9 → [some (sentG 1), some (sentG 2), some (sentG 3), some (sentG 4), some (sentG 5), some (sentG 6), some (sentG 7), some (sentG 8), some (sentG 9)][k - 1]? = some (some (sentG k)) := by
        intro k h1 h9
        rcases (show k = 1 ∨ k = 2 ∨ k = 3 ∨ k = 4 ∨ k = 5 ∨ k = 6 ∨ k = 7 ∨ k = 8 ∨ k = 9 by omega) with rfl | rfl | rfl | rfl | rfl | rfl | rfl | rfl | rfl <;> rfl
      rw [this k hk1 hk9] at e
      simpa using e
    subst hgk
    exact ⟨a, ha, hc, hr⟩
  refine ⟨fun k => (ad[k - 1]?).getD default, ⟨fun k hk1 hk9 => ?_, fun k hk1 hk9 => ?_, fun j k hj1 hj9 hk1 hk9 e => ?_⟩⟩
  · obtain ⟨a, ha, hc, _⟩ := key k hk1 hk9
    simp only [ha, Option.getD_some]
    exact hc
  · obtain ⟨a, ha, _, hr⟩ := key k hk1 hk9
    simp only [ha, Option.getD_some]
    exact hr
  · obtain ⟨a, ha, _, _⟩ := key j hj1 hj9
    obtain ⟨b, hb, _, _⟩ := key k hk1 hk9
    simp only [ha, hb, Option.getD_some] at e
    subst e
    have hlt := (List.getElem?_eq_some_iff.1 ha).1
    have := (List.getElem?_inj hlt h2).1 (ha.trans hb.symm)
    omega

/-! ### a world for the witness -/
abbrev str (l : List UInt8) : ByteArray := ⟨l.toArray⟩
noncomputable def low : Nat := (World.holding Tryd.prog default ⟨#[], #[], []⟩).heap.size
noncomputable def laidWorld (os : Os) : World :=
  let w0 := World.holding Tryd.prog os ⟨#[.cells #[.string (str [102, 111, 114, 109])] 115, .cells #[.string (str [114, 97, 110, 103, 101])] 115, .cells #[.string (str [102, 117, 108, 108])] 115,
    .cells #[.string (str [110, 111, 110, 101])] 115, .cells #[.string (str [99, 111, 114, 114, 117, 112, 116])] 115, .cells #[.string (str [102, 117, 101, 108])] 115,
    .cells #[.string (str [115, 116, 97, 116, 101])] 115, .cells #[.string (str [108, 111, 110, 103])] 115, .cells #[.string (str [116, 119, 105, 99, 101])] 115], #[], []⟩
  { w0 with heap := [1, 2, 3, 4, 5, 6, 7, 8, 9].foldl (fun h k => h.modify (sentG k) fun
      | .cells _ t frozen => .cells #[.iface 90 (.pointer (some ⟨low + (k - 1), 0, none⟩))] t frozen
      | o => o) w0.heap }
end Go.Proofs.YtlkpdehajkffaaaDoor
