/- merged: Mix, Steps, Box -/
import Derived.Test.YtflbioiildndoaaGreatDoorQ2
/- a region that draws its order: readings, taken in any order, beside deeds (what makes memory, writes, calls), of which each waits for what is ahead of it: ONE walk serves every order -/
namespace Go.Proofs.YtflbioiildndoaaGreatDoor
set_option linter.unusedSimpArgs false
open Go.RowKit

section
variable {P : Program} {ops : Array Oper} {md : Region.Mode} {C : World → Prop}

/-- no other way out -/
def noExit : Exit → Act → World → Prop := fun _ _ _ => False
theorem Oper.wp_exit {o : Oper} {a : Act} {w : World} {K : Act → World → Prop} {Q : Exit → Act → World → Prop} (h : o.wp P a w K noExit) : o.wp P a w K Q := by
  unfold Oper.wp at *
  generalize (execOp a.eval o).run P w = r at *
  cases r with
  | ok n w' =>
    cases n <;> simp only [Oper.upon] at h ⊢ <;> first | exact h | skip
    exact Calls.mono h (fun e w'' he => by
      cases e with
      | returned v => exact he
      | panicked c => exact he.elim
      | outgrown => exact absurd he (by unfold LetsOut noExit; simp))
  | halt x w' =>
    cases x <;> simp only [Oper.upon] at h ⊢
    all_goals first | exact h | exact h.elim

/-- operations that but read: they enter no function -/
def Oper.reads (o : Oper) : Bool := match o.op with
  | .move _ | .assign _ | .pick _ _ _ | .build _ _ | .load _ _ | .fieldAddr _ _ _ | .field _ _ _ | .indexAddr _ _ _ | .index _ _ _ | .binOp _ _ _ _ _ | .unOp _ _ _ | .convert _ _ _ | .slice _ _ _ _ _ | .makeInterface _ _ | .extract _ _ | .nilCheck _ => true
  | .call c => match c.callee with | .builtin .len => true | .builtin .min => true | .builtin .max => true | _ => false
  | _ => false
theorem value_only (s : Sem Value) (w : World) : ∀ n w', (do pure (Next.value (← s)) : Sem Next).run P w = .ok n w' → ∃ x, n = .value x := by
  intro n w' h
  simp only [Sem.run_bind] at h
  cases hs : s.run P w with
  | ok x w1 =>
    rw [hs] at h
    simp only [Result.andThen] at h
    simp at h
    exact ⟨x, h.1.symm⟩
  | halt x w1 => rw [hs] at h; simp [Result.andThen] at h
theorem Oper.reads_value {o : Oper} (h : Oper.reads o = true) (ρ : Operand → Value) (w : World) : ∀ n w', (execOp ρ o).run P w = .ok n w' → ∃ x, n = .value x := by
  unfold Oper.reads at h
  unfold execOp
  intro n w' hr
  split at h
  all_goals first | (cases h; done) | skip
  all_goals
    rename_i he
    rw [he] at hr
  case h_16 =>
    dsimp only at hr
    repeat' (split at hr)
    all_goals first
      | (simp [runtimePanic] at hr; done)
      | (simp at hr; exact ⟨_, hr.1.symm⟩)
      | (simp only [Sem.run_bind] at hr
         generalize (program).run P w = q1 at hr
         cases q1 with
         | halt x w1 => simp [Result.andThen] at hr
         | ok x w1 =>
           simp only [Result.andThen] at hr
           generalize (nilAhead _ _ _ _).run P w1 = q2 at hr
           cases q2 with
           | halt x w1 => simp [Result.andThen] at hr
           | ok x w1 =>
             simp only [Result.andThen] at hr
             split at hr
             · simp [unsupported, Result.andThen] at hr
             · simp at hr; exact ⟨_, hr.1.symm⟩)
  case h_17 =>
    split at h
    · rename_i hc
      simp only [resolve, hc, invoke, builtin, Sem.run_bind, Sem.run_pure, Result.andThen] at hr
      exact value_only _ _ _ _ (by simpa only [Sem.run_bind, Sem.run_pure, Result.andThen] using hr)
    · rename_i hc
      simp only [resolve, hc, invoke, builtin, Sem.run_bind, Sem.run_pure, Result.andThen] at hr
      exact value_only _ _ _ _ (by simpa only [Sem.run_bind, Sem.run_pure, Result.andThen] using hr)
    · rename_i hc
      simp only [resolve, hc, invoke, builtin, Sem.run_bind, Sem.run_pure, Result.andThen] at hr
      exact value_only _ _ _ _ (by simpa only [Sem.run_bind, Sem.run_pure, Result.andThen] using hr)
    · cases h
  all_goals first
    | exact value_only _ _ _ _ hr
    | (simp at hr; exact ⟨_, hr.1.symm⟩)
    | (simp only [Sem.run_bind] at hr
       generalize (asBool _).run P w = q at hr
       cases q with
       | ok x w1 => simp [Result.andThen] at hr; exact ⟨_, hr.1.symm⟩
       | halt x w1 => simp [Result.andThen] at hr)
theorem Oper.reads_not_call {o : Oper} (h : Oper.reads o = true) : (∀ cs b, o.op ≠ .select cs b) := by
  intro cs b e
  unfold Oper.reads at h
  rw [e] at h
  cases h

/-- operations that ask the world nothing -/
def Oper.flat (o : Oper) : Bool := match o.op with
  | .move _ | .assign _ | .extract _ _ => true
  | _ => false
theorem Oper.flat_run {o : Oper} (h : Oper.flat o = true) (ρ : Operand → Value) {w : World} {n : Next} (hr : (execOp ρ o).run P w = .ok n w) (w' : World) : (execOp ρ o).run P w' = .ok n w' := by
  unfold Oper.flat at h
  unfold execOp at hr ⊢
  split at h
  case h_4 => cases h
  all_goals
    rename_i he
    rw [he] at hr
    rw [he]
  case h_1 => simp at hr ⊢; exact hr
  case h_2 => simp at hr ⊢; exact hr
  case h_3 =>
    rename_i t ix
    change (do pure (Next.value (← Instr.extract (ρ t) ix)) : Sem Next).run P w = _ at hr
    show (do pure (Next.value (← Instr.extract (ρ t) ix)) : Sem Next).run P w' = _
    generalize ρ t = q at hr ⊢
    cases q with
    | tuple vs =>
      cases hv : vs[ix]? with
      | some x => simp [Instr.extract, hv] at hr ⊢; exact hr
      | none => simp [Instr.extract, hv, Result.andThen, stuck] at hr
    | _ => simp [Instr.extract, Result.andThen, stuck] at hr
/-- the class that an operation asks for -/
def Cof (C : World → Prop) (o : Oper) (w : World) : Prop := Oper.flat o = false → C w
/-- operation number i comes up -/
def opM (P : Program) (ops : Array Oper) (i : Nat) (K : Act → World → Prop) (a : Act) (w : World) : Prop :=
  match ops[i]? with
  | none => K a w
  | some o => if Region.wanted o (yielded ops a.tmps) = true then o.wp P a w K noExit else K (a.put o.dst undef) w
theorem opM_mono {i : Nat} {a : Act} {w : World} {K K' : Act → World → Prop} (h : ∀ a w, K a w → K' a w) (hh : opM P ops i K a w) : opM P ops i K' a w := by
  unfold opM at *
  split
  · exact h _ _ (by simpa [*] using hh)
  · rename_i o ho
    simp only [ho] at hh
    split
    · rename_i hw; simp only [hw, if_true] at hh; exact Oper.wp_mono h hh
    · rename_i hw; simp only [hw] at hh; exact h _ _ hh
theorem wpOp_of_M {i : Nat} {a : Act} {w : World} {K : Act → World → Prop} {Q : Exit → Act → World → Prop} (hh : opM P ops i K a w) : wpOp P ops Q i K a w := by
  unfold opM at hh
  unfold wpOp
  split
  · rename_i ho; simpa only [ho] using hh
  · rename_i o ho
    simp only [ho] at hh
    split
    · rename_i hw; simp only [hw, if_true] at hh; exact .inl (Oper.wp_exit hh)
    · rename_i hw; simp only [hw] at hh; exact hh

/-- whatever order is picked from here on; behind whatever may come ahead of a reading the class holds -/
def wpAnyM (P : Program) (md : Region.Mode) (ops : Array Oper) (C : World → Prop) (keep : Nat → Bool) (Q : Act → World → Prop) : Nat → Array Bool → Act → World → Prop
  | 0, listed, a, w => Region.ready md ops listed = [] ∧ Q a w
  | fuel + 1, listed, a, w =>
    (Region.ready md ops listed = [] → Q a w) ∧
    ∀ i ∈ Region.ready md ops listed, opM P ops i (fun a' w' => (keep i = true → C w → C w') ∧ wpAnyM P md ops C keep Q fuel (listed.setIfInBounds i true) a' w') a w
theorem wpAny_of_M {keep : Nat → Bool} {Q : Act → World → Prop} {Q' : Exit → Act → World → Prop} (hQ : ∀ a w, Q a w → Q' .normal a w) : ∀ (fuel : Nat) (listed : Array Bool) (a : Act) (w : World),
    wpAnyM P md ops C keep Q fuel listed a w → wpAny P md ops Q' fuel listed a w
  | 0, _, _, _, h => ⟨h.1, hQ _ _ h.2⟩
  | fuel + 1, _, _, _, h => ⟨fun h0 => hQ _ _ (h.1 h0), fun i hi => wpOp_mono (fun a' w' hw' => wpAny_of_M hQ fuel _ a' w' hw'.2) (wpOp_of_M (h.2 i hi))⟩

/-- a reading, behind which nothing has turned -/
theorem reading_opM {i : Nat} {o : Oper} {v : Value} {a : Act} {w : World} (hi : ops[i]? = some o) (hr : Oper.reads o = true) (hC : C w) (hy : YieldsIn P ops C o v a) {K : Act → World → Prop} (h : K (a.put o.dst v) w) : opM P ops i K a w := by
  unfold opM
  simp only [hi]
  rcases hy with ⟨hw, hv⟩ | ⟨hw, rfl⟩
  · simp only [hw, if_true]
    have h1 := hv w hC
    unfold Oper.quietAt at h1
    unfold Oper.wp
    have h2 := Oper.reads_value (P := P) hr a.eval w
    generalize (execOp a.eval o).run P w = r at *
    cases r with
    | ok n w' =>
      obtain ⟨x, rfl⟩ := h2 n w' rfl
      simp only [Oper.quietUpon] at h1
      obtain ⟨rfl, rfl⟩ := h1
      exact h
    | halt x w' => simp only [Oper.quietUpon] at h1
  · simp only [hw, Bool.false_eq_true, if_false]; exact h

/-- whether a reading's value is in its slot already makes no difference to an operation apart from it -/
theorem opM_put {j : Nat} {oi oj : Oper} {v : Value} (hj : ops[j]? = some oj) (hap : oi.apart ops oj = true)
    (hsi : ∀ cs b, oi.op ≠ .select cs b) (hsj : ∀ cs b, oj.op ≠ .select cs b) {K : Act → World → Prop} {a : Act} {w : World}
    (hy : YieldsIn P ops C oi v a) (h : opM P ops j K (a.put oi.dst v) w) :
    opM P ops j (fun a' w' => YieldsIn P ops C oi v a' ∧ K (a'.put oi.dst v) w') a w := by
  obtain ⟨h1, h2, h3⟩ := Oper.apart_spec hap
  have keep : ∀ (a : Act), YieldsIn P ops C oi v a → ∀ u, YieldsIn P ops C oi v (a.put oj.dst u) := fun a hy u =>
    hy.of_same (execOp_put oi hsi a oj.dst u h3) (wanted_put oi a oj.dst u h3)
  have keepD : ∀ (a a' : Act), a'.tmps = a.tmps → YieldsIn P ops C oi v a → YieldsIn P ops C oi v a' := fun a a' e hy => by
    have he : a'.eval = a.eval := by funext x; cases x <;> simp [Act.eval, e]
    exact hy.of_same (by rw [he]) (by rw [e])
  have putD : ∀ (a : Act) (d : Deferred) (x : Option Tmp) (u : Value), ({ a with defers := d :: a.defers } : Act).put x u = { a.put x u with defers := d :: (a.put x u).defers } := fun a d x u => by
    cases x <;> rfl
  unfold opM at *
  simp only [hj] at *
  rw [wanted_put oj a oi.dst v h1] at h
  split
  · rename_i hw
    simp only [hw, if_true] at h
    unfold Oper.wp at *
    rw [execOp_put oj hsj a oi.dst v h1] at h
    generalize (execOp a.eval oj).run P w = r at *
    cases r with
    | ok n w' =>
      cases n <;> simp only [Oper.upon] at h ⊢ <;> first | exact h.elim | skip
      · exact ⟨keep a hy _, by rw [← Act.put_comm a v _ h2]; exact h⟩
      · exact ⟨keep a hy _, by rw [← Act.put_comm a v _ h2]; exact h⟩
      · rename_i f args
        refine Calls.mono h fun e w'' he => ?_
        cases e with
        | returned u => exact ⟨keep a hy u, by rw [← Act.put_comm a v u h2]; exact he⟩
        | panicked c => exact he.elim
        | outgrown => exact absurd he (by unfold LetsOut noExit; simp)
      · rename_i d
        refine ⟨keep { a with defers := d :: a.defers } (keepD a _ rfl hy) undef, ?_⟩
        rw [putD, putD, ← Act.put_comm a v undef h2]
        rw [putD] at h
        exact h
      · rename_i row args
        exact Rows.mono h fun u w'' he => ⟨keep a hy u, by rw [← Act.put_comm a v u h2]; exact he⟩
    | halt x w' =>
      cases x <;> simp only [Oper.upon] at h
      all_goals exact h.elim
  · rename_i hw
    simp only [hw] at h
    exact ⟨keep a hy _, by rw [← Act.put_comm a v undef h2]; exact h⟩

/-- those that an operation waits for, at whatever remove -/
def ancs (md : Region.Mode) (ops : Array Oper) : Nat → List Nat → List Nat
  | 0, S => S
  | k + 1, S => ancs md ops k (if S.contains k then S ++ (match ops[k]? with | some o => (o.after.toList.filter (Region.binds md ·)).map (·.on) | none => []) else S)
/-- what is listed has what it waits for listed -/
def Closed (md : Region.Mode) (ops : Array Oper) (listed : Array Bool) : Prop :=
  ∀ j oj, ops[j]? = some oj → listed.getD j false = true → ∀ e ∈ oj.after, Region.binds md e = true → listed.getD e.on false = true
theorem ancs_listed {listed : Array Bool} (hc : Closed md ops listed) {j : Nat} {oj : Oper} (hj : ops[j]? = some oj) (hr : ∀ e ∈ oj.after, Region.binds md e = true → listed.getD e.on false = true) :
    ∀ (k : Nat) (S : List Nat), (∀ m ∈ S, m = j ∨ listed.getD m false = true) → ∀ m ∈ ancs md ops k S, m = j ∨ listed.getD m false = true
  | 0, _, h => h
  | k + 1, S, h => by
    unfold ancs
    refine ancs_listed hc hj hr k _ ?_
    split
    · rename_i hk
      intro m hm
      rcases List.mem_append.1 hm with hm | hm
      · exact h m hm
      · right
        cases ho : ops[k]? with
        | none => simp [ho] at hm
        | some o =>
          simp only [ho, List.mem_map, List.mem_filter] at hm
          obtain ⟨e, ⟨he, hb⟩, rfl⟩ := hm
          have he' : e ∈ o.after := by simpa using he
          rcases h k (by simpa using hk) with rfl | hl
          · rw [hj] at ho
            obtain rfl := Option.some.inj ho
            exact hr e he' hb
          · exact hc k o ho hl e he' hb
    · exact h
theorem Closed.set {listed : Array Bool} (hc : Closed md ops listed) {i : Nat} (hi : i ∈ Region.ready md ops listed) : Closed md ops (listed.setIfInBounds i true) := by
  obtain ⟨_, oi, hoi, hall⟩ := mem_ready.1 hi
  intro j oj hj hl e he hb
  by_cases hij : i = j
  · subst hij
    have : oj = oi := Option.some.inj (hj.symm.trans hoi)
    subst this
    exact getD_set_true (hall e he hb)
  · rw [getD_set_ne false hij] at hl
    exact getD_set_true (hc j oj hj hl e he hb)
def closedB (md : Region.Mode) (ops : Array Oper) (listed : Array Bool) : Bool :=
  (List.range ops.size).all fun j => match ops[j]? with
    | some oj => !listed.getD j false || oj.after.all fun e => !Region.binds md e || listed.getD e.on false
    | none => true
theorem closedB_spec {listed : Array Bool} (h : closedB md ops listed = true) : Closed md ops listed := by
  intro j oj hj hl e he hb
  unfold closedB at h
  have h1 := List.all_eq_true.1 h j (List.mem_range.2 (Array.getElem?_eq_some_iff.1 hj).1)
  simp only [hj, hl, Bool.not_true, Bool.false_or] at h1
  have h2 := Array.all_eq_true_iff_forall_mem.1 h1 e he
  simpa [hb] using h2
/-- the deeds that come last wait for every reading -/
def lastWaits (md : Region.Mode) (ops : Array Oper) (last : List Nat) : Bool :=
  last.all fun j => (List.range ops.size).all fun i => match ops[i]? with
    | some oi => last.contains i || !Oper.reads oi || Oper.flat oi || (ancs md ops ops.size [j]).contains i
    | none => true
theorem lastWaits_spec {last : List Nat} (h : lastWaits md ops last = true) {listed : Array Bool} (hc : Closed md ops listed) {i j : Nat} {oi oj : Oper} (hi : ops[i]? = some oi) (hj : ops[j]? = some oj) (hr : Oper.reads oi = true) (hil : last.contains i = false) (hfl : Oper.flat oi = false) (hl : last.contains j = true)
    (hrj : ∀ e ∈ oj.after, Region.binds md e = true → listed.getD e.on false = true) : listed.getD i false = true := by
  unfold lastWaits at h
  have h1 := List.all_eq_true.1 h j (by simpa using hl)
  have h2 := List.all_eq_true.1 h1 i (List.mem_range.2 (Array.getElem?_eq_some_iff.1 hi).1)
  simp only [hi, hr, hil, hfl, Bool.not_true, Bool.false_or] at h2
  rcases ancs_listed hc hj hrj ops.size [j] (fun m hm => .inl (by simpa using hm)) i (by simpa using h2) with rfl | h3
  · rw [hil] at hl; cases hl
  · exact h3
def keeps (last : List Nat) (i : Nat) : Bool := !last.contains i

theorem wpAnyM_first {last : List Nat} {Q : Act → World → Prop} {i : Nat} {oi : Oper} {v : Value} (hi : ops[i]? = some oi) (hr : Oper.reads oi = true) (hsel : ∀ (j : Nat) (o : Oper) cs b, ops[j]? = some o → o.op ≠ .select cs b)
    (hlast : lastWaits md ops last = true) (hil : last.contains i = false) :
    ∀ (fuel : Nat) (listed : Array Bool) (a : Act) (w : World), Cof C oi w → Closed md ops listed →
      (∀ j oj, ops[j]? = some oj → j ≠ i → listed.getD j true = false → (∀ e ∈ oj.after, Region.binds md e = true → e.on ≠ i) → oi.apart ops oj = true) →
      i ∈ Region.ready md ops listed → YieldsIn P ops (Cof C oi) oi v a →
      wpAnyM P md ops C (keeps last) Q fuel (listed.setIfInBounds i true) (a.put oi.dst v) w → wpAnyM P md ops C (keeps last) Q (fuel + 1) listed a w := by
  intro fuel
  induction fuel with
  | zero =>
    intro listed a w hC _ _ hrd hy H
    refine ⟨fun h => (by rw [h] at hrd; cases hrd), fun j hj => ?_⟩
    by_cases hji : j = i
    · subst hji; exact reading_opM hi hr hC hy ⟨fun _ h => h, H⟩
    · have := ready_mono hj hji
      rw [H.1] at this
      cases this
  | succ fuel ih =>
    intro listed a w hC hcl hfree hrd hy H
    refine ⟨fun h => (by rw [h] at hrd; cases hrd), fun j hj => ?_⟩
    by_cases hji : j = i
    · subst hji; exact reading_opM hi hr hC hy ⟨fun _ h => h, H⟩
    · have h1 := H.2 j (ready_mono hj hji)
      obtain ⟨hjun, oj, hoj, hall⟩ := mem_ready.1 hj
      have hnot : ∀ e ∈ oj.after, Region.binds md e = true → e.on ≠ i := fun e he hb heq => by
        have h1 := hall e he hb
        have h0 := (mem_ready.1 hrd).1
        rw [heq] at h1
        rcases Nat.lt_or_ge i listed.size with h' | h'
        · simp [h'] at h0 h1; rw [h0] at h1; cases h1
        · simp [Array.getElem?_eq_none h'] at h1
      have hk : Oper.flat oi = false → keeps last j = true := fun hfl => by
        cases hl : last.contains j with
        | false => unfold keeps; rw [hl]; rfl
        | true =>
          have h3 := lastWaits_spec hlast hcl hi hoj hr hil hfl hl hall
          have h0 := (mem_ready.1 hrd).1
          rcases Nat.lt_or_ge i listed.size with h' | h'
          · simp [h'] at h0 h3; rw [h0] at h3; cases h3
          · simp [Array.getElem?_eq_none h'] at h3
      have h2 := opM_put hoj (hfree j oj hoj hji hjun hnot) (fun cs b => hsel i oi cs b hi) (fun cs b => hsel j oj cs b hoj) hy h1
      have hfree' : ∀ k ok, ops[k]? = some ok → k ≠ i → (listed.setIfInBounds j true).getD k true = false →
          (∀ e ∈ ok.after, Region.binds md e = true → e.on ≠ i) → oi.apart ops ok = true := fun k ok hk hki hun hno => by
        refine hfree k ok hk hki ?_ hno
        by_cases hjk : j = k
        · subst hjk; exact hjun
        · rw [getD_set_ne true hjk] at hun; exact hun
      refine opM_mono (fun a' w' h3 => ?_) h2
      refine ⟨h3.2.1, ih (listed.setIfInBounds j true) a' w' (fun hfl => h3.2.1 (hk hfl) (hC hfl)) (hcl.set hj) hfree' (ready_mono hrd (Ne.symm hji)) h3.1 ?_⟩
      rw [Array.setIfInBounds_comm _ _ hji]
      exact h3.2.2

/-- what is behind some operations -/
def listAll (listed : Array Bool) : List Nat → Array Bool
  | [] => listed
  | i :: r => listAll (listed.setIfInBounds i true) r
def readsFrom (md : Region.Mode) (ops : Array Oper) (last : List Nat) : List Nat → Array Bool → Bool
  | [], _ => true
  | k :: r, listed => (Region.ready md ops listed).contains k && Region.free md ops listed k && (match ops[k]? with | some o => Oper.reads o | none => false) && !last.contains k && readsFrom md ops last r (listed.setIfInBounds k true)

/-- the state of a walk: so many operations are to come, those are behind us; the deeds that come last -/
def Mix (P : Program) (ops : Array Oper) (C : World → Prop) (last : List Nat) (Q : Act → World → Prop) (fuel : Nat) (listed : Array Bool) (a : Act) (w : World) : Prop :=
  wpAnyM P .any ops C (keeps last) Q fuel listed a w

theorem quiet_class {o : Oper} {v : Value} {a : Act} {D E : World → Prop} {w : World} (hrd : Oper.reads o = true) (h : Oper.quietAt P o a D w v) : Oper.quietAt P o a E w v := by
  unfold Oper.quietAt at h ⊢
  have h4 := Oper.reads_value (P := P) hrd a.eval w
  generalize (execOp a.eval o).run P w = r at *
  cases r with
  | ok n w1 =>
    obtain ⟨x, rfl⟩ := h4 n w1 rfl
    exact h
  | halt x w1 => exact h
theorem yields_cof {o : Oper} {v : Value} {a : Act} {D : World → Prop} {w : World} (hrd : Oper.reads o = true) (hD : D w) (hy : YieldsIn P ops D o v a) : YieldsIn P ops (Cof D o) o v a := by
  cases hf : Oper.flat o with
  | false =>
    rcases hy with ⟨h1, h2⟩ | h
    · exact .inl ⟨h1, fun w' hw' => quiet_class hrd (h2 w' (hw' hf))⟩
    · exact .inr h
  | true =>
    rcases hy with ⟨h1, h2⟩ | h
    · refine .inl ⟨h1, fun w' _ => ?_⟩
      have h3 := h2 w hD
      unfold Oper.quietAt at h3 ⊢
      have h4 := Oper.reads_value (P := P) hrd a.eval w
      cases hr : (execOp a.eval o).run P w with
      | ok n w1 =>
        obtain ⟨x, rfl⟩ := h4 n w1 hr
        rw [hr] at h3
        simp only [Oper.quietUpon] at h3
        obtain ⟨rfl, rfl⟩ := h3
        rw [Oper.flat_run hf a.eval hr w']
        exact ⟨rfl, rfl⟩
      | halt x w1 => rw [hr] at h3; simp only [Oper.quietUpon] at h3
    · exact .inr h
theorem yields_flat {o : Oper} {v : Value} {a : Act} {D E : World → Prop} {w : World} (hrd : Oper.reads o = true) (hf : Oper.flat o = true) (hD : D w) (hy : YieldsIn P ops D o v a) : YieldsIn P ops E o v a := by
  rcases yields_cof hrd hD hy with ⟨h1, h2⟩ | h
  · exact .inl ⟨h1, fun w' _ => quiet_class hrd (h2 w' (fun h => by rw [hf] at h; cases h))⟩
  · exact .inr h
/-- the same of operations that ask the world nothing: whatever the world has become -/
theorem mix_flat {last : List Nat} {Q : Act → World → Prop} (hs : Region.noSelect ops = true) (hlast : lastWaits .any ops last = true) {w : World} : ∀ (is : List Nat) (l : List Oper) (fuel : Nat) (listed : Array Bool) (a : Act),
    (∀ j : Nat, l[j]? = (is[j]?).bind fun i => ops[i]?) → l.length = is.length → Closed .any ops listed → readsFrom .any ops last is listed = true → (l.all Oper.flat) = true →
    wpQuiet P ops (fun w' => ∃ x : {x : World // x = w}, w' = x.val) (fun a' => Mix P ops C last Q fuel (listAll listed is) a' w) l a → Mix P ops C last Q (is.length + fuel) listed a w
  | [], [], fuel, listed, a, _, _, _, _, _, h => by
    simp only [List.length_nil, Nat.zero_add]
    exact h
  | [], o :: l, _, _, _, _, hl, _, _, _, _ => by simp at hl
  | k :: is, [], _, _, _, _, hl, _, _, _, _ => by simp at hl
  | k :: is, o :: l, fuel, listed, a, hl, hlen, hcl, hB, hfl, h => by
    have h0 : ops[k]? = some o := by simpa using (hl 0).symm
    simp only [readsFrom, Bool.and_eq_true, h0] at hB
    obtain ⟨⟨⟨⟨hr, hf⟩, hrd⟩, hil⟩, hB'⟩ := hB
    simp only [List.all_cons, Bool.and_eq_true] at hfl
    have hst : qOp P ops (fun w' => ∃ x : {x : World // x = w}, w' = x.val) k (wpQuiet P ops (fun w' => ∃ x : {x : World // x = w}, w' = x.val) (fun a' => Mix P ops C last Q fuel (listAll listed (k :: is)) a' w) l) a := by unfold qOp; simp only [h0]; exact h
    obtain ⟨v, hy, hK⟩ := yieldsIn_of_qOp h0 hst
    have hy2 : YieldsIn P ops (Cof C o) o v a := yields_flat hrd hfl.1 (w := w) ⟨⟨w, rfl⟩, rfl⟩ hy
    have ih := mix_flat hs hlast is l fuel (listed.setIfInBounds k true) (a.put o.dst v) (fun j => by have := hl (j + 1); simpa using this) (by simpa using hlen) (hcl.set (by simpa using hr)) hB' hfl.2 hK
    unfold Mix at ih ⊢
    rw [List.length_cons, show is.length + 1 + fuel = (is.length + fuel) + 1 by omega]
    exact wpAnyM_first h0 hrd (Region.noSelect_spec hs) hlast (by simpa using hil) _ listed a w (fun h => by rw [hfl.1] at h; cases h) hcl (Region.free_spec h0 hf) (by simpa using hr) hy2 ih
theorem mix_reads {last : List Nat} {Q : Act → World → Prop} (hs : Region.noSelect ops = true) (hlast : lastWaits .any ops last = true) {w : World} (hC : C w) : ∀ (is : List Nat) (l : List Oper) (fuel : Nat) (listed : Array Bool) (a : Act),
    (∀ j : Nat, l[j]? = (is[j]?).bind fun i => ops[i]?) → l.length = is.length → Closed .any ops listed → readsFrom .any ops last is listed = true →
    wpQuiet P ops C (fun a' => Mix P ops C last Q fuel (listAll listed is) a' w) l a → Mix P ops C last Q (is.length + fuel) listed a w
  | [], [], fuel, listed, a, _, _, _, _, h => by
    simp only [List.length_nil, Nat.zero_add]
    exact h
  | [], o :: l, _, _, _, _, hl, _, _, _ => by simp at hl
  | k :: is, [], _, _, _, _, hl, _, _, _ => by simp at hl
  | k :: is, o :: l, fuel, listed, a, hl, hlen, hcl, hB, h => by
    have h0 : ops[k]? = some o := by simpa using (hl 0).symm
    simp only [readsFrom, Bool.and_eq_true, h0] at hB
    obtain ⟨⟨⟨⟨hr, hf⟩, hrd⟩, hil⟩, hB'⟩ := hB
    have hst : qOp P ops C k (wpQuiet P ops C (fun a' => Mix P ops C last Q fuel (listAll listed (k :: is)) a' w) l) a := by unfold qOp; simp only [h0]; exact h
    obtain ⟨v, hy, hK⟩ := yieldsIn_of_qOp h0 hst
    have hy2 := yields_cof hrd hC hy
    have ih := mix_reads hs hlast hC is l fuel (listed.setIfInBounds k true) (a.put o.dst v) (fun j => by have := hl (j + 1); simpa using this) (by simpa using hlen) (hcl.set (by simpa using hr)) hB' hK
    unfold Mix at ih ⊢
    rw [List.length_cons, show is.length + 1 + fuel = (is.length + fuel) + 1 by omega]
    exact wpAnyM_first h0 hrd (Region.noSelect_spec hs) hlast (by simpa using hil) _ listed a w (fun _ => hC) hcl (Region.free_spec h0 hf) (by simpa using hr) hy2 ih

/-- a deed: it alone may come up -/
theorem mix_deed {last : List Nat} {Q : Act → World → Prop} {fuel : Nat} {listed : Array Bool} {a : Act} {w : World} (i : Nat) (o : Oper) (hi : ops[i]? = some o) (hr : Region.ready .any ops listed = [i])
    (h : ∀ K : Act → World → Prop, (∀ a' w', (keeps last i = true → C w → C w') ∧ Mix P ops C last Q fuel (listed.setIfInBounds i true) a' w' → K a' w') →
      if Region.wanted o (yielded ops a.tmps) = true then o.wp P a w K noExit else K (a.put o.dst undef) w) : Mix P ops C last Q (fuel + 1) listed a w := by
  refine ⟨fun h0 => by rw [hr] at h0; simp at h0, fun j hj => ?_⟩
  rw [hr] at hj
  obtain rfl : j = i := by simpa using hj
  unfold opM
  simp only [hi]
  exact h _ fun a' w' h => h
theorem mix_done {last : List Nat} {Q : Act → World → Prop} {listed : Array Bool} {a : Act} {w : World} (hr : Region.ready .any ops listed = []) (h : Q a w) : Mix P ops C last Q 0 listed a w := ⟨hr, h⟩
theorem wp_region_mix {id : Nat} {Q : Exit → Act → World → Prop} {a : Act} {w : World} {l : List Oper} (C : World → Prop) (last : List Nat) (n : Nat) (hm : P.follows .mixedOrders = true) (hn : l.length = n)
    (h : Mix P l.toArray C last (fun a w => Q .normal a w) n (Array.replicate n false) a w.drew) : (Code.region id l.toArray true).wp P Q a w := by
  subst hn
  refine wp_region_any hm (wpAny_of_M (C := C) (keep := keeps last) (Q := fun a w => Q .normal a w) (fun _ _ h => h) _ _ _ _ ?_)
  have : (l.toArray).size = l.length := by simp
  rw [this]
  exact h

/-! ### the same, the operations written out -/
def pick (l : List Oper) (is : List Nat) : List Oper := is.filterMap fun i => l[i]?
theorem pick_at {l : List Oper} : ∀ {is : List Nat}, (is.all fun i => decide (i < l.length)) = true → (∀ j : Nat, (pick l is)[j]? = (is[j]?).bind fun i => l.toArray[i]?) ∧ (pick l is).length = is.length
  | [], _ => ⟨fun j => by simp [pick], rfl⟩
  | i :: is, h => by
    simp only [List.all_cons, Bool.and_eq_true, decide_eq_true_eq] at h
    obtain ⟨h1, h2⟩ := pick_at h.2
    have e : pick l (i :: is) = l[i] :: pick l is := by unfold pick; rw [List.filterMap_cons, List.getElem?_eq_getElem h.1]
    rw [e]
    refine ⟨fun j => ?_, by simp [h2]⟩
    cases j with
    | zero => simp [h.1]
    | succ j => simpa using h1 j
theorem mix_reads_lit {l : List Oper} {last : List Nat} {Q : Act → World → Prop} {n : Nat} {listed : Array Bool} {a : Act} {w : World} (is : List Nat) (fuel : Nat) (hs : Region.noSelect l.toArray = true) (hlast : lastWaits .any l.toArray last = true)
    (hin : ((is.all fun i => decide (i < l.length)) && closedB .any l.toArray listed) = true) (hB : readsFrom .any l.toArray last is listed = true) (hn : n = is.length + fuel) (hC : C w)
    (h : wpQuiet P l.toArray C (fun a' => Mix P l.toArray C last Q fuel (listAll listed is) a' w) (pick l is) a) : Mix P l.toArray C last Q n listed a w := by
  subst hn
  simp only [Bool.and_eq_true] at hin
  obtain ⟨h1, h2⟩ := pick_at hin.1
  exact mix_reads hs hlast hC is (pick l is) fuel listed a h1 h2 (closedB_spec hin.2) hB h
theorem mix_flat_lit {l : List Oper} {last : List Nat} {Q : Act → World → Prop} {n : Nat} {listed : Array Bool} {a : Act} {w : World} (is : List Nat) (fuel : Nat) (hs : Region.noSelect l.toArray = true) (hlast : lastWaits .any l.toArray last = true)
    (hin : ((is.all fun i => decide (i < l.length)) && closedB .any l.toArray listed) = true) (hB : (readsFrom .any l.toArray last is listed && (pick l is).all Oper.flat) = true) (hn : n = is.length + fuel)
    (h : wpQuiet P l.toArray (fun w' => ∃ x : {x : World // x = w}, w' = x.val) (fun a' => Mix P l.toArray C last Q fuel (listAll listed is) a' w) (pick l is) a) : Mix P l.toArray C last Q n listed a w := by
  subst hn
  simp only [Bool.and_eq_true] at hin hB
  obtain ⟨h1, h2⟩ := pick_at hin.1
  exact mix_flat hs hlast is (pick l is) fuel listed a h1 h2 (closedB_spec hin.2) hB.1 hB.2 h
/-- an operation that comes up, K behind it -/
def comesUp (P : Program) (l : List Oper) (i : Nat) (a : Act) (w : World) (K : Act → World → Prop) : Prop :=
  match l[i]? with
  | some o => if Region.wanted o (yielded l.toArray a.tmps) = true then o.wp P a w K noExit else K (a.put o.dst undef) w
  | none => K a w
theorem if_mk {c t e : Prop} [Decidable c] (hc : c) (ht : t) : if c then t else e := by rw [if_pos hc]; exact ht
theorem mix_deed_lit {l : List Oper} {last : List Nat} {Q : Act → World → Prop} {n : Nat} {listed : Array Bool} {a : Act} {w : World} (i fuel : Nat) (hin : decide (i < l.length) = true) (hr : Region.ready .any l.toArray listed = [i]) (hn : n = fuel + 1)
    (h : ∀ K : Act → World → Prop, (∀ a' w', (keeps last i = true → C w → C w') → Mix P l.toArray C last Q fuel (listed.setIfInBounds i true) a' w' → K a' w') → comesUp P l i a w K) : Mix P l.toArray C last Q n listed a w := by
  subst hn
  have hi : i < l.length := by simpa using hin
  refine mix_deed i l[i] (by simp [hi]) hr fun K hK => ?_
  have := h K fun a' w' h1 h2 => hK a' w' ⟨h1, h2⟩
  unfold comesUp at this
  rw [List.getElem?_eq_getElem hi] at this
  exact this
/-- two deeds, either of which may come up -/
theorem mix_two_lit {l : List Oper} {last : List Nat} {Q : Act → World → Prop} {n : Nat} {listed : Array Bool} {a : Act} {w : World} (i j fuel : Nat) (hin : (decide (i < l.length) && decide (j < l.length)) = true) (hr : Region.ready .any l.toArray listed = [i, j]) (hn : n = fuel + 1)
    (h1 : ∀ K : Act → World → Prop, (∀ a' w', (keeps last i = true → C w → C w') → Mix P l.toArray C last Q fuel (listed.setIfInBounds i true) a' w' → K a' w') → comesUp P l i a w K)
    (h2 : ∀ K : Act → World → Prop, (∀ a' w', (keeps last j = true → C w → C w') → Mix P l.toArray C last Q fuel (listed.setIfInBounds j true) a' w' → K a' w') → comesUp P l j a w K) : Mix P l.toArray C last Q n listed a w := by
  subst hn
  simp only [Bool.and_eq_true, decide_eq_true_eq] at hin
  refine ⟨fun h0 => by rw [hr] at h0; simp at h0, fun k hk => ?_⟩
  rw [hr] at hk
  unfold opM
  rcases (show k = i ∨ k = j by simpa using hk) with rfl | rfl
  · have := h1 (fun a' w' => (keeps last k = true → C w → C w') ∧ wpAnyM P .any l.toArray C (keeps last) Q fuel (listed.setIfInBounds k true) a' w') fun a' w' g1 g2 => ⟨g1, g2⟩
    unfold comesUp at this
    rw [List.getElem?_eq_getElem hin.1] at this
    simp only [List.getElem?_toArray, List.getElem?_eq_getElem hin.1]
    exact this
  · have := h2 (fun a' w' => (keeps last k = true → C w → C w') ∧ wpAnyM P .any l.toArray C (keeps last) Q fuel (listed.setIfInBounds k true) a' w') fun a' w' g1 g2 => ⟨g1, g2⟩
    unfold comesUp at this
    rw [List.getElem?_eq_getElem hin.2] at this
    simp only [List.getElem?_toArray, List.getElem?_eq_getElem hin.2]
    exact this
theorem mix_done_lit {l : List Oper} {last : List Nat} {Q : Act → World → Prop} {listed : Array Bool} {a : Act} {w : World} (hr : Region.ready .any l.toArray listed = []) (h : Q a w) : Mix P l.toArray C last Q 0 listed a w := ⟨hr, h⟩
end

/-- a world behind w, in which all that was in w is as it was, but for the block 'row' -/
structure Near (w : World) (row : Option Nat) where
  world : World
  grown : w.grownBy world row
instance Near.inhab (w : World) (row : Option Nat) : Nonempty (Near w row) := ⟨⟨w, World.grownBy.refl _ _⟩⟩
theorem Near.cell {w : World} {row : Option Nat} {a : Addr} {v : Value} (h : w.cell? a = some v) (hr : row ≠ some a.block) (x : Near w row) : x.world.cell? a = some v := by
  have hb := x.grown.block a.block (World.block_lt_of_cell? w a h) (fun e => hr e.symm)
  unfold World.cell? at h ⊢
  rw [hb]
  exact h
def NearC (w : World) (row : Option Nat) (w' : World) : Prop := ∃ x : Near w row, w' = x.world
theorem NearC.of {w w' : World} {row : Option Nat} (h : w.grownBy w' row) : ∃ x : Near w row, w' = x.world := ⟨⟨w', h⟩, rfl⟩
theorem grown_alloc (w : World) (row : Option Nat) (o : Obj) : w.grownBy (w.alloc o) row := ⟨rfl, rfl, rfl, by simp, fun i hi _ => Below.heap_alloc _ _ _ hi⟩
theorem grown_cell {w w' : World} {row : Option Nat} {a : Addr} {v : Value} (hg : w.grownBy w' row) (h : w.cell? a = some v) (hr : row ≠ some a.block) : w'.cell? a = some v := Near.cell h hr ⟨w', hg⟩
theorem grown_frozen {w w' : World} {row : Option Nat} {a : Addr} {b : Bool} (hg : w.grownBy w' row) (hlt : a.block < w.heap.size) (h : w.frozen? a = b) (hr : row ≠ some a.block) : w'.frozen? a = b := by
  have hb := hg.block a.block hlt (fun e => hr e.symm)
  unfold World.frozen? at h ⊢
  rw [hb]
  exact h
/-- all cells below block B, in any world near w -/
theorem near_cells {w : World} {row : Option Nat} {B : Nat} (hr : ∀ k, row = some k → B ≤ k) (hB : B ≤ w.heap.size) (x : Near w row) (b o : Nat) (h : b < B) : x.world.cell? ⟨b, o, none⟩ = w.cell? ⟨b, o, none⟩ := by
  have hb := x.grown.block b (by omega) (fun e => by have := hr b e.symm; omega)
  unfold World.cell?
  rw [hb]
theorem grown_below {w w' : World} {row : Option Nat} {B : Nat} (hg : w.grownBy w' row) (hr : ∀ k, row = some k → B ≤ k) (hB : B ≤ w.heap.size) : Below B w w' :=
  ⟨hg.os, hg.tape, hg.output, hg.size, fun i hi => hg.block i (by omega) (fun e => by have := hr i e.symm; omega)⟩
end Go.Proofs.YtflbioiildndoaaGreatDoor

/- regions that draw their order: what is made in them, the world behind it under a name -/
namespace Go.Proofs.YtflbioiildndoaaGreatDoor
open Go.RowKit

theorem grown_size {w w' : World} {row : Option Nat} (h : w.grownBy w' row) : w.heap.size ≤ w'.heap.size := h.size
theorem alloc_facts (w : World) (o : Obj) : ∃ r w', w.heap.size = r ∧ w.alloc o = w' ∧ w'.heap[r]? = some o ∧ w.grownBy w' none ∧ w.heap.size ≤ r ∧ r < w'.heap.size :=
  ⟨_, _, rfl, rfl, heap_alloc_new w o, grown_alloc w none o, Nat.le_refl _, by simp⟩
/-- what a row that is new at D becomes is nothing to D -/
theorem grown_new {D w w' : World} {row : Option Nat} (h : D.grownBy w none) (k : w.grownBy w' row) (hr : ∀ g, row = some g → D.heap.size ≤ g) : D.grownBy w' none :=
  ⟨k.os.trans h.os, k.tape.trans h.tape, k.output.trans h.output, Nat.le_trans h.size k.size, fun i hi hne => (k.block i (Nat.lt_of_lt_of_le hi h.size) (fun e => by have := hr i e.symm; omega)).trans (h.block i hi hne)⟩
theorem bytes_grown {D w : World} {v : Value} {l : List UInt8} (h : BytesAt D v l) (k : D.grownBy w none) : BytesAt w v l := h.below (grown_below k (by simp) (Nat.le_refl _))
/-- append of bytes onto a row of the call's own, as one operation of a region that draws -/
theorem step_append_bytes {o : Oper} {a : Act} {w : World} {K : Act → World → Prop} {Q : Exit → Act → World → Prop} (s x : Operand)
    (ho : o.op = .call { callee := .builtin .append, args := #[s, x], argTypes := #[53, 53] }) (base : Nat)
    (v : Value) (l : List UInt8) (hs : a.eval s = v) (hown : Own w base v l)
    (X : Value) (m : List UInt8) (hx : a.eval x = X) (hsrc : BytesAt w X m)
    (hb : l.length + m.length ≤ 140737488355328) (hbase : base ≤ w.heap.size)
    (h : ∀ v' w', Own w' base v' (l ++ m) → w.grownBy w' v.ownBlock → K (a.put o.dst v') w') : o.wp Tryz.prog a w K Q := by
  obtain ⟨i, hi, hz, hs1, hb1⟩ := info_parts Tryz.infoByte
  obtain ⟨v', w', hrun, h2, h3, h4⟩ := run_append_own_src (P := Tryz.prog) w base 53 53 o.type 5 i _ 1 1 Tryz.underlying53 hi hz hs1 hb1 rfl v l.length (bytesV l) hown X m.length (bytesV m) hsrc.src (by unfold maxLen; omega) (by omega) hbase
  unfold Oper.wp
  simp [execOp, ho, resolve, invoke, builtin, hs, hx, hrun, Result.andThen]
  refine h v' w' ?_ h3
  unfold Own
  rw [bytesV_append, List.length_append]
  exact h2
/-- '[]byte{}' -/
theorem own_empty {r : Nat} {w' : World} {S : Nat} (hr : w'.heap[r]? = some (.cells #[] 5 (0, 0))) (hS : S ≤ r) : Own w' S (.slice (some ⟨r, 0, none⟩) 0 0) [] :=
  ⟨rfl, .inr ⟨r, 0, #[], rfl, hS, hr, Nat.le_refl _, Nat.zero_le _, rfl, rfl⟩⟩
theorem own_grown {w w' : World} {S : Nat} {v : Value} {l : List UInt8} (h : Own w S v l) (k : w.grownBy w' none) : Own w' S v l := h.grown k (by cases v.ownBlock with | none => exact .inl rfl | some g => exact .inr (by simp))
theorem heap_grown {w w' : World} {r : Nat} {o : Obj} {row : Option Nat} (h : w.heap[r]? = some o) (k : w.grownBy w' row) (hr : row ≠ some r) : w'.heap[r]? = some o := by
  rw [k.block r (Array.getElem?_eq_some_iff.1 h).1 (fun e => hr e.symm)]; exact h
end Go.Proofs.YtflbioiildndoaaGreatDoor

/- boxes of any number of cells: a local of the call's own whose address is taken, or a result in memory -/
namespace Go.Proofs.YtflbioiildndoaaGreatDoor
open Go.RowKit

/-- the box at block r holds these -/
def BoxAt (w : World) (r : Nat) (vs : List Value) : Prop := r < w.heap.size ∧ ∀ i v, vs[i]? = some v → w.cell? ⟨r, i, none⟩ = some v ∧ w.frozen? ⟨r, i, none⟩ = false
theorem BoxAt.new (w : World) (vs : List Value) (t : TypeId) : BoxAt (w.alloc (.cells vs.toArray t)) w.heap.size vs := by
  refine ⟨by simp, fun i v hv => ⟨?_, ?_⟩⟩
  · rw [cell_of_row _ w.heap.size i _ t (0, 0) (heap_alloc_new w _)]
    simpa using hv
  · exact World.frozen?_alloc_at _ _ _ _ rfl
theorem BoxAt.newAt (w : World) (r : Nat) (hr : w.heap.size = r) (vs : List Value) (t : TypeId) : BoxAt (w.alloc (.cells vs.toArray t)) r vs := by
  subst hr; exact BoxAt.new w vs t
theorem BoxAt.lt {w : World} {r : Nat} {vs : List Value} (h : BoxAt w r vs) : r < w.heap.size := h.1
theorem BoxAt.grownR {w w' : World} {row : Option Nat} {r : Nat} {vs : List Value} (h : BoxAt w r vs) (hg : w.grownBy w' row) (hne : row ≠ some r) : BoxAt w' r vs := by
  have e : w'.heap[r]? = w.heap[r]? := hg.block r h.1 (fun e => hne e.symm)
  refine ⟨Nat.lt_of_lt_of_le h.1 hg.size, fun i v hv => ?_⟩
  obtain ⟨h1, h2⟩ := h.2 i v hv
  exact ⟨by simp only [World.cell?, e] at h1 ⊢; exact h1, by simp only [World.frozen?, e] at h2 ⊢; exact h2⟩
theorem BoxAt.belowB {w w' : World} {B r : Nat} {vs : List Value} (h : BoxAt w r vs) (hb : Below B w w') (hl : r < B) : BoxAt w' r vs := by
  have e : w'.heap[r]? = w.heap[r]? := hb.block r hl
  refine ⟨Nat.lt_of_lt_of_le h.1 hb.size, fun i v hv => ?_⟩
  obtain ⟨h1, h2⟩ := h.2 i v hv
  exact ⟨by simp only [World.cell?, e] at h1 ⊢; exact h1, by simp only [World.frozen?, e] at h2 ⊢; exact h2⟩
theorem BoxAt.below {w w' : World} {r : Nat} {vs : List Value} (h : BoxAt w r vs) (hb : Below w.heap.size w w') : BoxAt w' r vs := h.belowB hb h.1
theorem BoxAt.alloc {w : World} {r : Nat} {vs : List Value} (h : BoxAt w r vs) (o : Obj) : BoxAt (w.alloc o) r vs := h.below ((Below.refl _ _).alloc (Nat.le_refl _) o)
theorem BoxAt.set {w : World} {r k : Nat} {vs : List Value} (h : BoxAt w r vs) (hne : k ≠ r) (j : Nat) (u : Value) : BoxAt (w.setCell ⟨k, j, none⟩ u) r vs :=
  h.grownR (grownBy_set (World.grownBy.refl w (some k)) j u) (by simpa using hne)
/-- a store into the box -/
theorem BoxAt.put {w : World} {r : Nat} {vs : List Value} (h : BoxAt w r vs) (j : Nat) (u : Value) : BoxAt (w.setCell ⟨r, j, none⟩ u) r (vs.set j u) := by
  refine ⟨by simpa using h.1, fun i v hv => ?_⟩
  rw [List.getElem?_set] at hv
  by_cases hij : j = i
  · subst hij
    simp only [if_true] at hv
    split at hv
    · rename_i hl
      obtain rfl : u = v := by simpa using hv
      obtain ⟨h1, h2⟩ := h.2 j vs[j] (List.getElem?_eq_getElem hl)
      exact ⟨World.cell?_setCell_same _ _ _ h1, by rw [World.frozen?_setCell]; exact h2⟩
    · cases hv
  · rw [if_neg hij] at hv
    obtain ⟨h1, h2⟩ := h.2 i v hv
    exact ⟨by rw [World.cell?_setCell_other _ _ _ _ (fun e => hij (Addr.mk.inj e).2.1)]; exact h1, by rw [World.frozen?_setCell]; exact h2⟩
theorem BoxAt.at {w : World} {r : Nat} {vs : List Value} (h : BoxAt w r vs) (i : Nat) (v : Value) (hv : vs[i]? = some v) : w.cell? ⟨r, i, none⟩ = some v := (h.2 i v hv).1
theorem BoxAt.free {w : World} {r : Nat} {vs : List Value} (h : BoxAt w r vs) (i : Nat) (v : Value) (hv : vs[i]? = some v) : w.frozen? ⟨r, i, none⟩ = false := (h.2 i v hv).2
theorem BoxAt.two {w : World} {r : Nat} {v0 v1 : Value} (h : BoxAt w r [v0, v1]) :
    w.cell? ⟨r, 0, none⟩ = some v0 ∧ w.cell? ⟨r, 1, none⟩ = some v1 := ⟨h.at 0 _ rfl, h.at 1 _ rfl⟩
theorem BoxAt.three {w : World} {r : Nat} {v0 v1 v2 : Value} (h : BoxAt w r [v0, v1, v2]) :
    w.cell? ⟨r, 0, none⟩ = some v0 ∧ w.cell? ⟨r, 1, none⟩ = some v1 ∧ w.cell? ⟨r, 2, none⟩ = some v2 := ⟨h.at 0 _ rfl, h.at 1 _ rfl, h.at 2 _ rfl⟩
theorem BoxAt.four {w : World} {r : Nat} {v0 v1 v2 v3 : Value} (h : BoxAt w r [v0, v1, v2, v3]) :
    w.cell? ⟨r, 0, none⟩ = some v0 ∧ w.cell? ⟨r, 1, none⟩ = some v1 ∧ w.cell? ⟨r, 2, none⟩ = some v2 ∧ w.cell? ⟨r, 3, none⟩ = some v3 := ⟨h.at 0 _ rfl, h.at 1 _ rfl, h.at 2 _ rfl, h.at 3 _ rfl⟩
theorem BoxAt.five {w : World} {r : Nat} {v0 v1 v2 v3 v4 : Value} (h : BoxAt w r [v0, v1, v2, v3, v4]) :
    w.cell? ⟨r, 0, none⟩ = some v0 ∧ w.cell? ⟨r, 1, none⟩ = some v1 ∧ w.cell? ⟨r, 2, none⟩ = some v2 ∧ w.cell? ⟨r, 3, none⟩ = some v3 ∧ w.cell? ⟨r, 4, none⟩ = some v4 := ⟨h.at 0 _ rfl, h.at 1 _ rfl, h.at 2 _ rfl, h.at 3 _ rfl, h.at 4 _ rfl⟩
theorem BoxAt.four_free {w : World} {r : Nat} {v0 v1 v2 v3 : Value} (h : BoxAt w r [v0, v1, v2, v3]) :
    w.frozen? ⟨r, 0, none⟩ = false ∧ w.frozen? ⟨r, 1, none⟩ = false ∧ w.frozen? ⟨r, 2, none⟩ = false ∧ w.frozen? ⟨r, 3, none⟩ = false := ⟨h.free 0 _ rfl, h.free 1 _ rfl, h.free 2 _ rfl, h.free 3 _ rfl⟩
theorem BoxAt.five_free {w : World} {r : Nat} {v0 v1 v2 v3 v4 : Value} (h : BoxAt w r [v0, v1, v2, v3, v4]) :
    w.frozen? ⟨r, 0, none⟩ = false ∧ w.frozen? ⟨r, 1, none⟩ = false ∧ w.frozen? ⟨r, 2, none⟩ = false ∧ w.frozen? ⟨r, 3, none⟩ = false ∧ w.frozen? ⟨r, 4, none⟩ = false := ⟨h.free 0 _ rfl, h.free 1 _ rfl, h.free 2 _ rfl, h.free 3 _ rfl, h.free 4 _ rfl⟩
/-- the world under a name -/
theorem wp_name {P : Program} {s : Code} {Q : Exit → Act → World → Prop} {a : Act} {w : World} (h : ∀ W, W = w → s.wp P Q a W) : s.wp P Q a w := h w rfl
end Go.Proofs.YtflbioiildndoaaGreatDoor
