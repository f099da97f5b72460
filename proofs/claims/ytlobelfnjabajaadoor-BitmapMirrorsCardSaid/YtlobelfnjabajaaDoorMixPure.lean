/- a region that draws its order: calls that leave the world as it was, taken as readings are -/
import Derived.Test.YtlobelfnjabajaaDoorMix
namespace Go.Proofs.YtlobelfnjabajaaDoor
open Go.RowKit

section
variable {P : Program} {ops : Array Oper} {C : World → Prop}

/-- in every world of the class the operation yields v, and leaves that world -/
def PureIn (P : Program) (C : World → Prop) (o : Oper) (v : Value) (a : Act) : Prop := ∀ w, C w → o.quietAt P a (fun w' => w' = w) w v
def YieldsP (P : Program) (ops : Array Oper) (C : World → Prop) (o : Oper) (v : Value) (a : Act) : Prop :=
  (Region.wanted o (yielded ops a.tmps) = true ∧ PureIn P C o v a) ∨ (Region.wanted o (yielded ops a.tmps) = false ∧ v = undef)
theorem YieldsP.of_same {o : Oper} {v : Value} {a a' : Act} (hy : YieldsP P ops C o v a) (he : execOp a'.eval o = execOp a.eval o)
    (hw : Region.wanted o (yielded ops a'.tmps) = Region.wanted o (yielded ops a.tmps)) : YieldsP P ops C o v a' := by
  unfold YieldsP PureIn Oper.quietAt at *
  rw [he, hw]
  exact hy
theorem pure_opM {i : Nat} {o : Oper} {v : Value} {a : Act} {w : World} (hi : ops[i]? = some o) (hC : C w) (hy : YieldsP P ops C o v a) {K : Act → World → Prop} (h : K (a.put o.dst v) w) : opM P ops i K a w := by
  unfold opM
  simp only [hi]
  rcases hy with ⟨hw, hv⟩ | ⟨hw, rfl⟩
  · simp only [hw, if_true]
    have h1 := hv w hC
    unfold Oper.quietAt at h1
    unfold Oper.wp
    generalize (execOp a.eval o).run P w = r at *
    cases r with
    | ok n w' =>
      cases n <;> simp only [Oper.quietUpon] at h1
      · obtain ⟨rfl, rfl⟩ := h1
        exact h
      · obtain ⟨rfl, rfl⟩ := h1
        exact h
      · obtain ⟨rfl, h1⟩ := h1
        simp only [Oper.upon]
        refine Calls.mono h1 fun e w'' he => ?_
        obtain ⟨rfl, rfl⟩ := he
        exact h
    | halt x w' => simp only [Oper.quietUpon] at h1
  · simp only [hw, Bool.false_eq_true, if_false]; exact h
theorem opM_putP {j : Nat} {oi oj : Oper} {v : Value} (hj : ops[j]? = some oj) (hap : oi.apart ops oj = true)
    (hsi : ∀ cs b, oi.op ≠ .select cs b) (hsj : ∀ cs b, oj.op ≠ .select cs b) {K : Act → World → Prop} {a : Act} {w : World}
    (hy : YieldsP P ops C oi v a) (h : opM P ops j K (a.put oi.dst v) w) :
    opM P ops j (fun a' w' => YieldsP P ops C oi v a' ∧ K (a'.put oi.dst v) w') a w := by
  obtain ⟨h1, h2, h3⟩ := Oper.apart_spec hap
  have keep : ∀ (a : Act), YieldsP P ops C oi v a → ∀ u, YieldsP P ops C oi v (a.put oj.dst u) := fun a hy u =>
    hy.of_same (execOp_put oi hsi a oj.dst u h3) (wanted_put oi a oj.dst u h3)
  have keepD : ∀ (a a' : Act), a'.tmps = a.tmps → YieldsP P ops C oi v a → YieldsP P ops C oi v a' := fun a a' e hy => by
    have he : a'.eval = a.eval := by funext x; cases x <;> simp [Act.eval, e]
    exact hy.of_same (by rw [he]) (by rw [e])
  have putD : ∀ (a : Act) (d : Deferred) (x : Option Tmp) (u : Value), ({ a with defers := d :: a.defers } : Act).put x u = { a.put x u with defers := d :: (a.put x u).defers } := fun a d x u => by
    cases x <;> rfl
  unfold opM at *
  simp only [hj] at *
  rw [wanted_put oj a oi.dst v h1] at h
  split
  · rename_i hw
    simp only [hw, if_true] at h
    unfold Oper.wp at *
    rw [execOp_put oj hsj a oi.dst v h1] at h
    generalize (execOp a.eval oj).run P w = r at *
    cases r with
    | ok n w' =>
      cases n <;> simp only [Oper.upon] at h ⊢ <;> first | exact h.elim | skip
      · exact ⟨keep a hy _, by rw [← Act.put_comm a v _ h2]; exact h⟩
      · exact ⟨keep a hy _, by rw [← Act.put_comm a v _ h2]; exact h⟩
      · rename_i f args
        refine Calls.mono h fun e w'' he => ?_
        cases e with
        | returned u => exact ⟨keep a hy u, by rw [← Act.put_comm a v u h2]; exact he⟩
        | panicked c => exact he.elim
        | outgrown => exact absurd he (by unfold LetsOut noExit; simp)
      · rename_i d
        refine ⟨keep { a with defers := d :: a.defers } (keepD a _ rfl hy) undef, ?_⟩
        rw [putD, putD, ← Act.put_comm a v undef h2]
        rw [putD] at h
        exact h
      · rename_i row args
        exact Rows.mono h fun u w'' he => ⟨keep a hy u, by rw [← Act.put_comm a v u h2]; exact he⟩
    | halt x w' =>
      cases x <;> simp only [Oper.upon] at h
      all_goals exact h.elim
  · rename_i hw
    simp only [hw] at h
    exact ⟨keep a hy _, by rw [← Act.put_comm a v undef h2]; exact h⟩

theorem wpAnyM_firstP {md : Region.Mode} {Q : Act → World → Prop} {i : Nat} {oi : Oper} {v : Value} (hi : ops[i]? = some oi) (hsel : ∀ (j : Nat) (o : Oper) cs b, ops[j]? = some o → o.op ≠ .select cs b) :
    ∀ (fuel : Nat) (listed : Array Bool) (a : Act) (w : World), C w →
      (∀ j oj, ops[j]? = some oj → j ≠ i → listed.getD j true = false → (∀ e ∈ oj.after, Region.binds md e = true → e.on ≠ i) → oi.apart ops oj = true) →
      i ∈ Region.ready md ops listed → YieldsP P ops C oi v a →
      wpAnyM P md ops C (keeps []) Q fuel (listed.setIfInBounds i true) (a.put oi.dst v) w → wpAnyM P md ops C (keeps []) Q (fuel + 1) listed a w := by
  intro fuel
  induction fuel with
  | zero =>
    intro listed a w hC _ hrd hy H
    refine ⟨fun h => (by rw [h] at hrd; cases hrd), fun j hj => ?_⟩
    by_cases hji : j = i
    · subst hji; exact pure_opM hi hC hy ⟨fun _ h => h, H⟩
    · have := ready_mono hj hji
      rw [H.1] at this
      cases this
  | succ fuel ih =>
    intro listed a w hC hfree hrd hy H
    refine ⟨fun h => (by rw [h] at hrd; cases hrd), fun j hj => ?_⟩
    by_cases hji : j = i
    · subst hji; exact pure_opM hi hC hy ⟨fun _ h => h, H⟩
    · have h1 := H.2 j (ready_mono hj hji)
      obtain ⟨hjun, oj, hoj, hall⟩ := mem_ready.1 hj
      have hnot : ∀ e ∈ oj.after, Region.binds md e = true → e.on ≠ i := fun e he hb heq => by
        have h1 := hall e he hb
        have h0 := (mem_ready.1 hrd).1
        rw [heq] at h1
        rcases Nat.lt_or_ge i listed.size with h' | h'
        · simp [h'] at h0 h1; rw [h0] at h1; cases h1
        · simp [Array.getElem?_eq_none h'] at h1
      have h2 := opM_putP hoj (hfree j oj hoj hji hjun hnot) (fun cs b => hsel i oi cs b hi) (fun cs b => hsel j oj cs b hoj) hy h1
      have hfree' : ∀ k ok, ops[k]? = some ok → k ≠ i → (listed.setIfInBounds j true).getD k true = false →
          (∀ e ∈ ok.after, Region.binds md e = true → e.on ≠ i) → oi.apart ops ok = true := fun k ok hk hki hun hno => by
        refine hfree k ok hk hki ?_ hno
        by_cases hjk : j = k
        · subst hjk; exact hjun
        · rw [getD_set_ne true hjk] at hun; exact hun
      refine opM_mono (fun a' w' h3 => ?_) h2
      refine ⟨h3.2.1, ih (listed.setIfInBounds j true) a' w' (h3.2.1 rfl hC) hfree' (ready_mono hrd (Ne.symm hji)) h3.1 ?_⟩
      rw [Array.setIfInBounds_comm _ _ hji]
      exact h3.2.2

/-- a call (or a making) that leaves every world of the class as it is, told by its law -/
theorem mix_pure_lit {l : List Oper} {Q : Act → World → Prop} {n : Nat} {listed : Array Bool} {a : Act} {w : World} (i fuel : Nat) (hs : Region.noSelect l.toArray = true)
    (hB : ((Region.ready .any l.toArray listed).contains i && Region.free .any l.toArray listed i) = true) (hn : n = fuel + 1) (hC : C w)
    (h : ∃ v, (match l[i]? with | some o => YieldsP P l.toArray C o v a | none => True) ∧ Mix P l.toArray C [] Q fuel (listed.setIfInBounds i true) (match l[i]? with | some o => a.put o.dst v | none => a) w) : Mix P l.toArray C [] Q n listed a w := by
  subst hn
  simp only [Bool.and_eq_true] at hB
  obtain ⟨v, h1, h2⟩ := h
  have hrd : i ∈ Region.ready .any l.toArray listed := by simpa using hB.1
  obtain ⟨_, o, ho, _⟩ := mem_ready.1 hrd
  have ho' : l[i]? = some o := by simpa using ho
  simp only [ho'] at h1 h2
  exact wpAnyM_firstP ho (Region.noSelect_spec hs) fuel listed a w hC (Region.free_spec ho hB.2) hrd h1 h2
/-- a call's law, for a class of worlds -/
theorem YieldsP.call {l : List Oper} {o : Oper} {v : Value} {a : Act} (hw : Region.wanted o (yielded l.toArray a.tmps) = true) (f : FuncId) (args : Array Value) (hx : ∀ w, (execOp a.eval o).run P w = .ok (.enter f args) w)
    (h : ∀ w, C w → Calls P f args w fun e w' => e = .returned v ∧ w = w') : YieldsP P l.toArray C o v a := by
  refine .inl ⟨hw, fun w hC => ?_⟩
  unfold Oper.quietAt
  rw [hx w]
  exact ⟨rfl, (h w hC).mono fun e w' ⟨h1, h2⟩ => ⟨h1, h2.symm⟩⟩
end
end Go.Proofs.YtlobelfnjabajaaDoor
