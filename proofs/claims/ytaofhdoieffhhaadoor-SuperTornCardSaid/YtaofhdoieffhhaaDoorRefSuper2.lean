/- superblocks: the document's Open -/
import Derived.Test.YtaofhdoieffhhaaDoorRefSuper
import Derived.Test.YtaofhdoieffhhaaDoorSuper4
namespace Go.Proofs.YtaofhdoieffhhaaDoor
open Go.RowKit
set_option linter.unusedVariables false
set_option linter.unusedSimpArgs false

/-- what the document's Open tells -/
def RefSup (o : Option Su.Sup) (e : Ending) : Prop := e = .returned (.tuple #[supV (o.getD Su.zero), .bool o.isSome])
theorem refSupRight_is (s : Su.Sup) (B : Bool) (h : Su.right s = B) (w : World) :
    Calls Tryd.prog 25 #[.agg #[.int .u64 (s.gen : Int), .int .i64 s.blocks, .int .i64 s.size, .int .i64 s.root, .int .i64 s.keys]] w fun e w' => e = .returned (.bool B) ∧ Below w.heap.size w w' := by
  subst h; exact refSupRight_any s w
theorem boxFive_store {w : World} {r : Nat} {o0 o1 o2 o3 o4 : Value} {T : TypeId} (hr : w.heap[r]? = some (.cells #[o0, o1, o2, o3, o4] T (0, 0))) (v0 v1 v2 v3 v4 : Value) :
    BoxAt (((((w.setCell ⟨r, 0, none⟩ v0).setCell ⟨r, 1, none⟩ v1).setCell ⟨r, 2, none⟩ v2).setCell ⟨r, 3, none⟩ v3).setCell ⟨r, 4, none⟩ v4) r [v0, v1, v2, v3, v4] := by
  have h : BoxAt w r [o0, o1, o2, o3, o4] := by
    refine ⟨(Array.getElem?_eq_some_iff.1 hr).1, fun i v hv => ?_⟩
    constructor
    · simp only [World.cell?, hr]
      match i, hv with
      | 0, hv => simpa using hv
      | 1, hv => simpa using hv
      | 2, hv => simpa using hv
      | 3, hv => simpa using hv
      | 4, hv => simpa using hv
    · simp [World.frozen?, hr]
  exact ((((h.put 0 v0).put 1 v1).put 2 v2).put 3 v3).put 4 v4

set_option maxRecDepth 100000 in
set_option maxHeartbeats 4000000 in
theorem refSupOpen_any (a : Option Addr) (c : Nat) (l : List UInt8) (at_ : Int) (w : World) (hb : BytesAt w (.slice a l.length c) l) :
    Calls Tryd.prog 39 #[.slice a l.length c, .int .i64 at_] w fun e w' => RefSup (Su.supOpen l at_) e ∧ Below w.heap.size w w' := by
  have HB := Lib.hid hb
  clear hb
  have NO := fun (h : ¬ Su.supOpens l at_) => show Su.supOpen l at_ = none by unfold Su.supOpen; rw [if_neg h]
  rcases openAt_code (l := l) (at_ := at_) with ⟨k, X, hk, hr, hno⟩ | ⟨ho, hid, hr⟩
  · have HT := Lib.hid (NO hno)
    have HR := Lib.hid hr
    obtain ⟨KI, hKI⟩ : ∃ KI : Int, ((k : Nat) : Int) = KI := ⟨_, rfl⟩
    have HKI := Lib.hid hKI
    have hkb : (KI != 0) = true := by simp; omega
    clear hno hr hk NO hKI
    go_enter Tryd.func39, Tryd.ntmps39
    go_wp2_with (go_at_call 38; (refine (refOpenAt_is a c l at_ Pg.zero k X HR.out _ (HB.out.alloc _)).mono ?_); (rintro e w1 ⟨⟨a1, c1, rfl, ho1⟩, hb1⟩); (rw [HKI.out]); (have HX := Lib.hid ((BoxAt.new w [.int .u64 0, .int .i64 0, .int .i64 0, .int .i64 0, .int .i64 0] 48).below hb1)); (have HB1 := Lib.hid ((show Below w.heap.size w _ by go_grown).trans (hb1.mono (by simp)))); (obtain ⟨m0, m1, m2, m3, m4⟩ := HX.out.five); (obtain ⟨f0, f1, f2, f3, f4⟩ := HX.out.five_free); (have hlt := HX.out.lt); (have k1 : ¬ w1.heap.size = w.heap.size := Nat.ne_of_gt hlt); (have k2 : ¬ w.heap.size = w1.heap.size := Nat.ne_of_lt hlt); (clear ho1 hb1))
    refine bodyPost_ret (v := .tuple #[supV Su.zero, .bool false]) (by simp [results, Tryd.results39, go_sem, m0, m1, m2, m3, m4, supV, Su.zero, hlt, k1, k2]) rfl ?_
    have hb := HB1.out
    rw [HT.out]
    exact ⟨rfl, by go_grown⟩
  · have hck := Pg.check_ok ho.1
    have hpg := Pg.read_gen l
    have hopen : Su.supOpens l at_ ↔ (Su.says (Pg.readL l) = true ∧ (Su.saidL (Pg.readL l)).size = (l.length : Int)) := by
      unfold Su.supOpens
      exact ⟨fun h => h.2.2, fun h => ⟨ho, hid, h⟩⟩
    have YES := fun (h : Su.supOpens l at_) => show Su.supOpen l at_ = some (Su.saidL (Pg.readL l)) by unfold Su.supOpen; rw [if_pos h]
    have hsy : Su.says (Pg.readL l) = (decide ((Pg.readL l).body.length = 24) && (decide (Pg.num (Pg.readL l).body 16 8 = (Pg.readL l).gen) && (decide ((Pg.readL l).kind = 1) && Su.right (Su.saidL (Pg.readL l))))) := rfl
    have hsl : Su.saidL (Pg.readL l) = ⟨(Pg.readL l).gen, numI (Pg.readL l).body 0 4, numI (Pg.readL l).body 4 4, numI (Pg.readL l).body 8 4, numI (Pg.readL l).body 12 4⟩ := rfl
    generalize hp : Pg.readL l = p at *
    have HR := Lib.hid hr
    clear hr hid ho hck hp
    by_cases hk1 : p.kind = 1
    · by_cases h24 : p.body.length = 24
      · have hkb : (p.kind != 1) = false := by simp; exact hk1
        have hlb : ((p.body.length : Int) != 24) = false := by simp; omega
        have hsy2 : Su.says p = (decide (Pg.num p.body 16 8 = p.gen) && Su.right (Su.saidL p)) := by rw [hsy]; simp [h24, hk1]
        have HSY := Lib.hid hsy2
        have HSL := Lib.hid hsl
        have HOPEN := Lib.hid hopen
        have HYES := Lib.hid YES
        have HNOO := Lib.hid NO
        have H24 := Lib.hid h24
        clear hsy hsy2 hsl hopen YES NO hk1 h24
        go_enter Tryd.func39, Tryd.ntmps39
        go_upto_region 5 with (first
          | (go_at_call 38; (refine (refOpenAt_is a c l at_ p 0 (-1) HR.out _ (HB.out.alloc _)).mono ?_); (rintro e w1 ⟨⟨a1, c1, rfl, ho1⟩, hb1⟩); (have HX := Lib.hid ((BoxAt.new w [.int .u64 0, .int .i64 0, .int .i64 0, .int .i64 0, .int .i64 0] 48).below hb1)); (have HB1 := Lib.hid ((show Below w.heap.size w _ by go_grown).trans (hb1.mono (by simp)))); (have hlt := HX.out.lt); (have k1 : ¬ w1.heap.size = w.heap.size := Nat.ne_of_gt hlt); (have k2 : ¬ w.heap.size = w1.heap.size := Nat.ne_of_lt hlt); (have HO1 := Lib.hid (ho1.alloc (.cells #[.int .i64 p.kind, .int .i64 p.id, .int .u64 (p.gen : Int), .slice a1 p.body.length c1] 25)).bytes); (clear ho1 hb1))
          | (go_at_call 58; refine (refTake_num _ p.body 16 8 _ HO1.out (by decide) (by decide) (by have := H24.out; omega)).mono ?_; rintro e w2 ⟨rfl, rfl⟩))
        refine wp_name fun W hW => ?_
        have HPB := Lib.hid (show BoxAt W w1.heap.size [.int .i64 p.kind, .int .i64 p.id, .int .u64 (p.gen : Int), .slice a1 p.body.length c1] by rw [hW]; exact BoxAt.new w1 [_, _, _, _] _)
        have HRB := Lib.hid (show BoxAt W w.heap.size [.int .u64 0, .int .i64 0, .int .i64 0, .int .i64 0, .int .i64 0] by rw [hW]; exact HX.out.alloc _)
        have HOW := Lib.hid (show BytesAt W (.slice a1 p.body.length c1) p.body by rw [hW]; exact HO1.out)
        have HBW := Lib.hid (show Below w.heap.size w W by rw [hW]; exact HB1.out.alloc HB1.out.size _)
        clear hW
        go_cut [11] (fun s wx => ∃ r, s = .pointer (some ⟨r, 0, none⟩) ∧ BoxAt wx r [.int .u64 (p.gen : Int), .int .i64 (numI p.body 0 4), .int .i64 (numI p.body 4 4), .int .i64 (numI p.body 8 4), .int .i64 (numI p.body 12 4)] ∧ W.grownBy wx none ∧ W.heap.size ≤ r)
        case first =>
          have gW : W.grownBy W.drew none := grown_of_below (Below.refl _ _).drew (Nat.le_refl _) none
          have hDs : Hid (W.drew.heap.size = W.heap.size) := Lib.hid rfl
          have HOD := Lib.hid (show BytesAt W.drew (.slice a1 p.body.length c1) p.body from HOW.out.below (Below.refl _ _).drew)
          have n2 := Near.cell (w := W.drew) (row := none) (HPB.out.at 2 _ rfl) (by simp)
          have n3 := Near.cell (w := W.drew) (row := none) (HPB.out.at 3 _ rfl) (by simp)
          have hpure : ∀ (A : Int), 0 ≤ A → A + 4 ≤ 24 → ∀ wq, (∃ x : Near W.drew none, wq = x.world) → Calls Tryd.prog 60 #[.slice a1 p.body.length c1, .int .i64 A] wq fun e w' => e = .returned (.int .i64 (numI p.body A 4)) ∧ wq = w' := fun A h1 h2 wq ⟨x, hx⟩ => refTake06_is _ p.body A wq (by rw [hx]; exact bytes_grown HOD.out x.grown) h1 (by have := H24.out; omega)
          have HPU := Lib.hid hpure
          clear hpure
          refine wp_region_mix (fun w' => ∃ x : Near W.drew none, w' = x.world) [] 18 (by kernel_rfl) rfl ?_
          generalize W.drew = D at *
          refine mix_reads_lit [0, 1, 2, 3, 5, 6, 9, 10, 12, 13] 8 (by kernel_rfl) (by kernel_rfl) (by kernel_rfl) (by kernel_rfl) rfl (NearC.of (World.grownBy.refl _ _)) ?_
          simp only [pick, List.filterMap_cons, List.filterMap_nil, List.getElem?_cons_succ, List.getElem?_cons_zero]
          repeat (first | go_big_quiet_step (fail) | quiet_step (fail))
          refine wpQuiet_nil ?_
          refine mix_pure_lit 4 7 (by kernel_rfl) (by kernel_rfl) rfl (NearC.of (World.grownBy.refl _ _)) ⟨_, YieldsP.call rfl 60 #[.slice a1 p.body.length c1, .int .i64 0] (fun wq => by go_simp) (HPU.out 0 (by decide) (by decide)), ?_⟩
          simp only [List.getElem?_cons_succ, List.getElem?_cons_zero]
          refine mix_pure_lit 7 6 (by kernel_rfl) (by kernel_rfl) rfl (NearC.of (World.grownBy.refl _ _)) ⟨_, YieldsP.call rfl 60 #[.slice a1 p.body.length c1, .int .i64 4] (fun wq => by go_simp) (HPU.out 4 (by decide) (by decide)), ?_⟩
          simp only [List.getElem?_cons_succ, List.getElem?_cons_zero]
          refine mix_pure_lit 11 5 (by kernel_rfl) (by kernel_rfl) rfl (NearC.of (World.grownBy.refl _ _)) ⟨_, YieldsP.call rfl 60 #[.slice a1 p.body.length c1, .int .i64 8] (fun wq => by go_simp) (HPU.out 8 (by decide) (by decide)), ?_⟩
          simp only [List.getElem?_cons_succ, List.getElem?_cons_zero]
          refine mix_pure_lit 14 4 (by kernel_rfl) (by kernel_rfl) rfl (NearC.of (World.grownBy.refl _ _)) ⟨_, YieldsP.call rfl 60 #[.slice a1 p.body.length c1, .int .i64 12] (fun wq => by go_simp) (HPU.out 12 (by decide) (by decide)), ?_⟩
          simp only [List.getElem?_cons_succ, List.getElem?_cons_zero]
          refine mix_reads_lit [8, 15] 2 (by kernel_rfl) (by kernel_rfl) (by kernel_rfl) (by kernel_rfl) rfl (NearC.of (World.grownBy.refl _ _)) ?_
          simp only [pick, List.filterMap_cons, List.filterMap_nil, List.getElem?_cons_succ, List.getElem?_cons_zero]
          repeat (first | go_big_quiet_step (fail) | quiet_step (fail))
          refine wpQuiet_nil ?_
          refine mix_deed_lit 16 1 (by kernel_rfl) (by kernel_rfl) rfl (fun K hK => ?_)
          simp only [comesUp, List.getElem?_cons_succ, List.getElem?_cons_zero]
          refine if_mk rfl ?_
          go_simp
          obtain ⟨r, D1, er, en, hr, kr, lr, mr⟩ := alloc_facts D (.cells #[.int .u64 0, .int .i64 0, .int .i64 0, .int .i64 0, .int .i64 0] 48)
          rw [en, er]
          clear en er
          refine hK _ _ (fun _ _ => NearC.of kr) ?_
          clear hK K
          refine mix_deed_lit 17 0 (by kernel_rfl) (by kernel_rfl) rfl (fun K hK => ?_)
          simp only [comesUp, List.getElem?_cons_succ, List.getElem?_cons_zero]
          refine if_mk rfl ?_
          have s0 : D1.cell? ⟨r, 0, none⟩ = some (.int .u64 0) := by simp [World.cell?, hr]
          have s1 : D1.cell? ⟨r, 1, none⟩ = some (.int .i64 0) := by simp [World.cell?, hr]
          have s2 : D1.cell? ⟨r, 2, none⟩ = some (.int .i64 0) := by simp [World.cell?, hr]
          have s3 : D1.cell? ⟨r, 3, none⟩ = some (.int .i64 0) := by simp [World.cell?, hr]
          have s4 : D1.cell? ⟨r, 4, none⟩ = some (.int .i64 0) := by simp [World.cell?, hr]
          have t0 : D1.frozen? ⟨r, 0, none⟩ = false := by simp [World.frozen?, hr]
          have t1 : D1.frozen? ⟨r, 1, none⟩ = false := by simp [World.frozen?, hr]
          have t2 : D1.frozen? ⟨r, 2, none⟩ = false := by simp [World.frozen?, hr]
          have t3 : D1.frozen? ⟨r, 3, none⟩ = false := by simp [World.frozen?, hr]
          have t4 : D1.frozen? ⟨r, 4, none⟩ = false := by simp [World.frozen?, hr]
          have HFB := Lib.hid (boxFive_store hr (.int .u64 (p.gen : Int)) (.int .i64 (numI p.body 0 4)) (.int .i64 (numI p.body 4 4)) (.int .i64 (numI p.body 8 4)) (.int .i64 (numI p.body 12 4)))
          have HFG := Lib.hid (grown_sets (grown_sets (grown_sets (grown_sets (grown_sets kr lr 0 (.int .u64 (p.gen : Int))) lr 1 (.int .i64 (numI p.body 0 4))) lr 2 (.int .i64 (numI p.body 4 4))) lr 3 (.int .i64 (numI p.body 8 4))) lr 4 (.int .i64 (numI p.body 12 4)))
          have HGW := Lib.hid gW
          have hlr := hDs.out ▸ lr
          go_simp
          refine hK _ _ (fun _ _ => NearC.of HFG.out) ?_
          clear hK K
          refine mix_done_lit (by kernel_rfl) ?_
          clear s0 s1 s2 s3 s4 t0 t1 t2 t3 t4 hr kr gW n2 n3
          go_wp2_with fail
          go_meet
          exact ⟨r, rfl, HFB.out, grown_trans HGW.out HFG.out, hlr⟩
        case rest =>
          obtain ⟨r, rfl, hsb, hgw, hwr⟩ := hcut
          have HRC := Lib.hid (HRB.out.grownR hgw (by simp))
          have HPC := Lib.hid (HPB.out.grownR hgw (by simp))
          have HSC := Lib.hid hsb
          have HBC := Lib.hid (HBW.out.trans (grown_below hgw (by simp) (Nat.le_of_lt HRB.out.lt)))
          have q1 : ¬ r = w.heap.size := by have := HRB.out.lt; omega
          have q2 : ¬ w.heap.size = r := fun e => q1 e.symm
          clear hsb hgw hwr
          obtain ⟨x0, x1, x2, x3, x4⟩ := HSC.out.five
          cases hrt : Su.right ⟨p.gen, numI p.body 0 4, numI p.body 4 4, numI p.body 8 4, numI p.body 12 4⟩ with
          | false =>
            have HRT := Lib.hid hrt
            have HT := Lib.hid (HNOO.out (fun h => by have := (HOPEN.out.1 h).1; rw [HSY.out, HSL.out, hrt] at this; simp at this))
            clear hrt
            go_wp2_with (go_at_call 25; (refine (refSupRight_is ⟨p.gen, numI p.body 0 4, numI p.body 4 4, numI p.body 8 4, numI p.body 12 4⟩ false HRT.out _).mono ?_); (rintro e w3 ⟨rfl, hb3⟩); (have HB3 := Lib.hid (below_step HBC.out hb3)); (obtain ⟨m0, m1, m2, m3, m4⟩ := (HRC.out.below hb3).five); (obtain ⟨f0, f1, f2, f3, f4⟩ := (HRC.out.below hb3).five_free); (obtain ⟨z0, z1, z2, z3⟩ := (HPC.out.below hb3).four); (obtain ⟨y0, y1, y2, y3, y4⟩ := (HSC.out.below hb3).five); (clear hb3))
            refine bodyPost_ret (v := .tuple #[supV Su.zero, .bool false]) (by simp [results, Tryd.results39, go_sem, m0, m1, m2, m3, m4, supV, Su.zero]) rfl ?_
            have hb := HB3.out
            rw [HT.out]
            exact ⟨rfl, by go_grown⟩
          | true =>
            have HRT := Lib.hid hrt
            by_cases hsz : numI p.body 4 4 = (l.length : Int)
            · have hz2 : (numI p.body 4 4 != (l.length : Int)) = false := by simpa using hsz
              by_cases hag : Pg.num p.body 16 8 = p.gen
              · have hga : (numI p.body 16 8 != (p.gen : Int)) = false := by unfold numI; simp; omega
                have HT : Hid (Su.supOpen l at_ = some ⟨p.gen, numI p.body 0 4, numI p.body 4 4, numI p.body 8 4, numI p.body 12 4⟩) := Lib.hid (by
                  rw [HYES.out (HOPEN.out.2 ⟨by rw [HSY.out, HSL.out, hrt]; simp [hag], by rw [HSL.out]; exact hsz⟩), HSL.out])
                clear hrt hsz hag
                go_wp2_with (go_at_call 25; (refine (refSupRight_is ⟨p.gen, numI p.body 0 4, numI p.body 4 4, numI p.body 8 4, numI p.body 12 4⟩ true HRT.out _).mono ?_); (rintro e w3 ⟨rfl, hb3⟩); (have HB3 := Lib.hid (below_step HBC.out hb3)); (obtain ⟨m0, m1, m2, m3, m4⟩ := (HRC.out.below hb3).five); (obtain ⟨f0, f1, f2, f3, f4⟩ := (HRC.out.below hb3).five_free); (obtain ⟨z0, z1, z2, z3⟩ := (HPC.out.below hb3).four); (obtain ⟨y0, y1, y2, y3, y4⟩ := (HSC.out.below hb3).five); (clear hb3))
                refine bodyPost_ret (v := .tuple #[supV ⟨p.gen, numI p.body 0 4, numI p.body 4 4, numI p.body 8 4, numI p.body 12 4⟩, .bool true]) (by simp [results, Tryd.results39, go_sem, m0, m1, m2, m3, m4, supV]) rfl ?_
                have hb := HB3.out
                rw [HT.out]
                exact ⟨rfl, by go_grown⟩
              · have hga : (numI p.body 16 8 != (p.gen : Int)) = true := by unfold numI; simp; omega
                have HT := Lib.hid (HNOO.out (fun h => by have := (HOPEN.out.1 h).1; rw [HSY.out] at this; simp at this; exact hag this.1))
                clear hrt hsz hag
                go_wp2_with (go_at_call 25; (refine (refSupRight_is ⟨p.gen, numI p.body 0 4, numI p.body 4 4, numI p.body 8 4, numI p.body 12 4⟩ true HRT.out _).mono ?_); (rintro e w3 ⟨rfl, hb3⟩); (have HB3 := Lib.hid (below_step HBC.out hb3)); (obtain ⟨m0, m1, m2, m3, m4⟩ := (HRC.out.below hb3).five); (obtain ⟨f0, f1, f2, f3, f4⟩ := (HRC.out.below hb3).five_free); (obtain ⟨z0, z1, z2, z3⟩ := (HPC.out.below hb3).four); (obtain ⟨y0, y1, y2, y3, y4⟩ := (HSC.out.below hb3).five); (clear hb3))
                refine bodyPost_ret (v := .tuple #[supV Su.zero, .bool false]) (by simp [results, Tryd.results39, go_sem, m0, m1, m2, m3, m4, supV, Su.zero]) rfl ?_
                have hb := HB3.out
                rw [HT.out]
                exact ⟨rfl, by go_grown⟩
            · have hz2 : (numI p.body 4 4 != (l.length : Int)) = true := by simpa using hsz
              have HT := Lib.hid (HNOO.out (fun h => by have := (HOPEN.out.1 h).2; rw [HSL.out] at this; exact hsz this))
              clear hrt hsz
              go_wp2_with (go_at_call 25; (refine (refSupRight_is ⟨p.gen, numI p.body 0 4, numI p.body 4 4, numI p.body 8 4, numI p.body 12 4⟩ true HRT.out _).mono ?_); (rintro e w3 ⟨rfl, hb3⟩); (have HB3 := Lib.hid (below_step HBC.out hb3)); (obtain ⟨m0, m1, m2, m3, m4⟩ := (HRC.out.below hb3).five); (obtain ⟨f0, f1, f2, f3, f4⟩ := (HRC.out.below hb3).five_free); (obtain ⟨z0, z1, z2, z3⟩ := (HPC.out.below hb3).four); (obtain ⟨y0, y1, y2, y3, y4⟩ := (HSC.out.below hb3).five); (clear hb3))
              refine bodyPost_ret (v := .tuple #[supV Su.zero, .bool false]) (by simp [results, Tryd.results39, go_sem, m0, m1, m2, m3, m4, supV, Su.zero]) rfl ?_
              have hb := HB3.out
              rw [HT.out]
              exact ⟨rfl, by go_grown⟩
      · have HT := Lib.hid (NO (fun h => by have := (hopen.1 h).1; rw [hsy] at this; simp at this; omega))
        have hkb : (p.kind != 1) = false := by simp; exact hk1
        have hlb : ((p.body.length : Int) != 24) = true := by simp; omega
        clear NO YES hsy hsl hopen hk1 h24
        go_enter Tryd.func39, Tryd.ntmps39
        go_wp2_with (go_at_call 38; (refine (refOpenAt_is a c l at_ p 0 (-1) HR.out _ (HB.out.alloc _)).mono ?_); (rintro e w1 ⟨⟨a1, c1, rfl, ho1⟩, hb1⟩); (have HX := Lib.hid ((BoxAt.new w [.int .u64 0, .int .i64 0, .int .i64 0, .int .i64 0, .int .i64 0] 48).below hb1)); (have HB1 := Lib.hid ((show Below w.heap.size w _ by go_grown).trans (hb1.mono (by simp)))); (obtain ⟨m0, m1, m2, m3, m4⟩ := HX.out.five); (obtain ⟨f0, f1, f2, f3, f4⟩ := HX.out.five_free); (have hlt := HX.out.lt); (have k1 : ¬ w1.heap.size = w.heap.size := Nat.ne_of_gt hlt); (have k2 : ¬ w.heap.size = w1.heap.size := Nat.ne_of_lt hlt); (clear ho1 hb1))
        refine bodyPost_ret (v := .tuple #[supV Su.zero, .bool false]) (by simp [results, Tryd.results39, go_sem, m0, m1, m2, m3, m4, supV, Su.zero, hlt, k1, k2]) rfl ?_
        have hb := HB1.out
        rw [HT.out]
        exact ⟨rfl, by go_grown⟩
    · have HT := Lib.hid (NO (fun h => by have := (hopen.1 h).1; rw [hsy] at this; simp at this; omega))
      have hkb : (p.kind != 1) = true := by simp; exact hk1
      clear NO YES hsy hsl hopen hk1
      go_enter Tryd.func39, Tryd.ntmps39
      go_wp2_with (go_at_call 38; (refine (refOpenAt_is a c l at_ p 0 (-1) HR.out _ (HB.out.alloc _)).mono ?_); (rintro e w1 ⟨⟨a1, c1, rfl, ho1⟩, hb1⟩); (have HX := Lib.hid ((BoxAt.new w [.int .u64 0, .int .i64 0, .int .i64 0, .int .i64 0, .int .i64 0] 48).below hb1)); (have HB1 := Lib.hid ((show Below w.heap.size w _ by go_grown).trans (hb1.mono (by simp)))); (obtain ⟨m0, m1, m2, m3, m4⟩ := HX.out.five); (obtain ⟨f0, f1, f2, f3, f4⟩ := HX.out.five_free); (have hlt := HX.out.lt); (have k1 : ¬ w1.heap.size = w.heap.size := Nat.ne_of_gt hlt); (have k2 : ¬ w.heap.size = w1.heap.size := Nat.ne_of_lt hlt); (clear ho1 hb1))
      refine bodyPost_ret (v := .tuple #[supV Su.zero, .bool false]) (by simp [results, Tryd.results39, go_sem, m0, m1, m2, m3, m4, supV, Su.zero, hlt, k1, k2]) rfl ?_
      have hb := HB1.out
      rw [HT.out]
      exact ⟨rfl, by go_grown⟩
end Go.Proofs.YtaofhdoieffhhaaDoor
