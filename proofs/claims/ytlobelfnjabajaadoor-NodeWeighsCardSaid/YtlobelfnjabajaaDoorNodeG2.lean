/- nodes: Get, of an inner node's bytes -/
import Derived.Test.YtlobelfnjabajaaDoorNodeG1
namespace Go.Proofs.YtlobelfnjabajaaDoor
open Go.RowKit
set_option linter.unusedVariables false
set_option linter.unusedSimpArgs false

/-- a row of ints, by the law of any rows -/
abbrev eInt : Elem Int := ⟨24, 3, 1, 8, .int .i64 0, fun x => [.int .i64 x]⟩
theorem eInt_ok : eInt.Ok where
  len _ := rfl
  one x u hu := by simp at hu; subst hu; rfl
  und := Tryd.underlying24
  info := Tryd.infoInt
  zs := rfl
theorem all_eInt (l : List Int) : eInt.all l = intsV l := by
  induction l with
  | nil => rfl
  | cons x l ih =>
    have : eInt.all (x :: l) = Value.int .i64 x :: eInt.all l := rfl
    rw [this, ih]; rfl
theorem OwnI.toR {w : World} {base : Nat} {v : Value} {l : List Int} (h : OwnI w base v l) : OwnR eInt w base v l := by
  unfold OwnR; rw [all_eInt]; exact h
theorem OwnI.ofR {w : World} {base : Nat} {v : Value} {l : List Int} (h : OwnR eInt w base v l) : OwnI w base v l := by
  unfold OwnR at h; rw [all_eInt] at h; exact h
/-- rows of other types lie in other blocks -/
theorem own_apart {w : World} {b1 b2 : Nat} {v1 v2 : Value} {l1 : List ByteArray} {l2 : List Int} (h1 : OwnR eStr w b1 v1 l1) (h2 : OwnI w b2 v2 l2) : (v1.ownBlock = none ∨ v1.ownBlock ≠ v2.ownBlock) ∧ (v2.ownBlock = none ∨ v2.ownBlock ≠ v1.ownBlock) := by
  rcases h1.2 with ⟨rfl, _⟩ | ⟨g, cap, cur, rfl, _, hg, _⟩
  · exact ⟨.inl rfl, by
      cases hv : v2.ownBlock with
      | none => exact .inl rfl
      | some k => right; simp [Value.ownBlock]⟩
  · rcases h2.2 with ⟨rfl, _⟩ | ⟨g', cap', cur', rfl, _, hg', _⟩
    · exact ⟨.inr (by simp [Value.ownBlock]), .inl rfl⟩
    · have hne : g ≠ g' := by
        intro e; subst e
        rw [hg] at hg'
        simp only [Option.some.injEq, Obj.cells.injEq] at hg'
        exact absurd hg'.2.1 (by decide)
      exact ⟨.inr (by simpa [Value.ownBlock] using hne), .inr (by simpa [Value.ownBlock] using fun e => hne e.symm)⟩
/-- worlds in which one block is as it was -/
structure BoxW (w : World) (r : Nat) where
  world : World
  same : world.heap[r]? = w.heap[r]?
instance BoxW.inhab (w : World) (r : Nat) : Nonempty (BoxW w r) := ⟨⟨w, rfl⟩⟩
theorem BoxW.cell {w : World} {r i : Nat} {v : Value} (h : w.cell? ⟨r, i, none⟩ = some v) (x : BoxW w r) : x.world.cell? ⟨r, i, none⟩ = some v := by
  have := x.same
  simp only [World.cell?, this] at h ⊢; exact h
theorem BoxW.of {w w' : World} {r : Nat} (h : w'.heap[r]? = w.heap[r]?) : ∃ x : BoxW w r, w' = x.world := ⟨⟨w', h⟩, rfl⟩
def GetI (w : World) (a : Option Addr) (c : Nat) (l : List UInt8) (s : Rd) (ks : List ByteArray) (ki : List Int) (a2 : Option Addr) (c2 : Nat) (a3 : Option Addr) (c3 : Nat) (wr : World) : Prop :=
  BoxAt wr w.heap.size [.bool false, .slice none 0 0, .slice none 0 0, .slice none 0 0] ∧
  BoxAt wr (w.heap.size + 1) [.slice a l.length c, .int .i64 (s.pos : Int), .bool s.bad] ∧
  BoxAt wr (w.heap.size + 2) [.bool false, .slice none 0 0, .slice a2 ks.length c2, .slice a3 ki.length c3] ∧
  OwnR eStr wr (w.heap.size + 3) (.slice a2 ks.length c2) ks ∧ OwnI wr (w.heap.size + 3) (.slice a3 ki.length c3) ki ∧ Below w.heap.size w wr
section
variable {w : World} {a : Option Addr} {c : Nat} {l : List UInt8} {s s' : Rd} {ks : List ByteArray} {ki : List Int} {a2 : Option Addr} {c2 : Nat} {a3 : Option Addr} {c3 : Nat} {wr wr' : World}
theorem GetI.rd (h : GetI w a c l s ks ki a2 c2 a3 c3 wr) (hb : BoxAt wr' (w.heap.size + 1) [.slice a l.length c, .int .i64 (s'.pos : Int), .bool s'.bad]) (hg : wr.grownBy wr' (some (w.heap.size + 1))) : GetI w a c l s' ks ki a2 c2 a3 c3 wr' := by
  obtain ⟨h1, h2, h3, h4, h6, h5⟩ := h
  exact ⟨h1.grownR hg (by simp), hb, h3.grownR hg (by simp), h4.keep hg (by omega), h6.keep hg (by omega), h5.trans (grown_below hg (fun k hk => by simp at hk; omega) h5.size)⟩
theorem GetI.below (h : GetI w a c l s ks ki a2 c2 a3 c3 wr) (hb : Below wr.heap.size wr wr') : GetI w a c l s ks ki a2 c2 a3 c3 wr' := by
  obtain ⟨h1, h2, h3, h4, h6, h5⟩ := h
  exact ⟨h1.below hb, h2.below hb, h3.below hb, h4.below hb (Nat.le_refl _), h6.below hb (Nat.le_refl _), h5.trans (hb.mono h5.size)⟩
theorem GetI.drew (h : GetI w a c l s ks ki a2 c2 a3 c3 wr) : GetI w a c l s ks ki a2 c2 a3 c3 wr.drew := h.below (Below.refl _ _).drew
theorem GetI.size (h : GetI w a c l s ks ki a2 c2 a3 c3 wr) : w.heap.size + 3 ≤ wr.heap.size := h.2.2.1.lt
/-- the keys' row grew -/
theorem GetI.keys {m : List ByteArray} {v2 : Value} (h : GetI w a c l s ks ki a2 c2 a3 c3 wr) (hg : wr.grownBy wr' (Value.slice a2 ks.length c2).ownBlock) :
    BoxAt wr' w.heap.size [.bool false, .slice none 0 0, .slice none 0 0, .slice none 0 0] ∧ BoxAt wr' (w.heap.size + 1) [.slice a l.length c, .int .i64 (s.pos : Int), .bool s.bad] ∧
    BoxAt wr' (w.heap.size + 2) [.bool false, .slice none 0 0, .slice a2 ks.length c2, .slice a3 ki.length c3] ∧ OwnI wr' (w.heap.size + 3) (.slice a3 ki.length c3) ki ∧ Below w.heap.size w wr' := by
  obtain ⟨h1, h2, h3, h4, h6, h5⟩ := h
  have hob : ∀ k, (Value.slice a2 ks.length c2).ownBlock = some k → w.heap.size + 3 ≤ k := fun k hk => (h4.lt k hk).1
  exact ⟨h1.grownR hg (fun e => by have := hob _ e; omega), h2.grownR hg (fun e => by have := hob _ e; omega), h3.grownR hg (fun e => by have := hob _ e; omega), h6.grown hg (own_apart h4 h6).2, h5.trans (grown_below hg (fun k hk => by have := hob _ hk; omega) h5.size)⟩
end
theorem innerR_at {l : List UInt8} {c0 : Int} {s0 s : Rd} {ks : List ByteArray} {ki : List Int} {k : Nat} (h : innerR l c0 s0 k = ((ks, ki), s)) (hb : s.bad = false) {t : ByteArray} {s1 : Rd} (ht : textR l s = (t, s1)) {n : Nat} {s2 : Rd} (hn : numR l 4 s1 = (n, s2)) : innerR l c0 s0 (k + 1) = ((ks ++ [t], ki ++ [(n : Int)]), s2) := by
  rw [innerR, h]; simp [hb, kidR, ht, hn]
theorem innerR_bad {l : List UInt8} {c0 : Int} {s0 s : Rd} {x : List ByteArray × List Int} {k n : Nat} (h : innerR l c0 s0 k = (x, s)) (hb : s.bad = true) (hk : k ≤ n) : innerR l c0 s0 n = (x, s) := by
  rw [← h]; exact innerR_stays (by rw [h]; exact hb) n hk
theorem nodePutI_any {S : Nat → Prop} [Has S 1] (ks : List ByteArray) (ki : List Int) (a2 a3 : Option Addr) (c2 c3 : Nat) (w : World) (A : Nat → Addr) (hs : SentsOn S w A) (h2 : RowAt eStr w (.slice a2 ks.length c2) ks) (h3 : IntsAt w (.slice a3 ki.length c3) ki) (hl2 : ks.length ≤ 1000000) (hl3 : ki.length ≤ 1000000) :
    Calls Tryd.prog 16 #[.agg #[.bool false, .slice none 0 0, .slice a2 ks.length c2, .slice a3 ki.length c3]] w fun e w' => (∃ v ev, e = .returned (.tuple #[v, ev])) ∧ Below w.heap.size w w' :=
  (nodePut_any false [] ks ki none a2 a3 0 c2 c3 w A hs (RowAt.nil _ _) h2 h3 (by simp) hl2 hl3).mono fun e w' ⟨⟨a, c, ev, lp, he, _⟩, hb⟩ => ⟨⟨_, _, he⟩, hb⟩
theorem nodePutI_bad {S : Nat → Prop} [Has S 1] (ks : List ByteArray) (ki : List Int) (hn : nodeB false [] ks ki = false) (a2 a3 : Option Addr) (c2 c3 : Nat) (w : World) (A : Nat → Addr) (hs : SentsOn S w A) (h2 : RowAt eStr w (.slice a2 ks.length c2) ks) (h3 : IntsAt w (.slice a3 ki.length c3) ki) (hl2 : ks.length ≤ 1000000) (hl3 : ki.length ≤ 1000000) :
    Calls Tryd.prog 16 #[.agg #[.bool false, .slice none 0 0, .slice a2 ks.length c2, .slice a3 ki.length c3]] w fun e w' => (∃ t x, e = .returned (.tuple #[.slice none 0 0, .iface t x])) ∧ Below w.heap.size w w' :=
  (nodePut_bad false [] ks ki hn none a2 a3 0 c2 c3 w A hs (RowAt.nil _ _) h2 h3 (by simp) hl2 hl3).mono fun e w' ⟨⟨t, x, he, _⟩, hb⟩ => ⟨⟨t, x, he⟩, hb⟩
theorem nodePutI_ok {S : Nat → Prop} [Has S 1] (ks : List ByteArray) (ki : List Int) (hn : nodeB false [] ks ki = true) (L : List UInt8) (hL : nodeL false [] ks ki = L) (a2 a3 : Option Addr) (c2 c3 : Nat) (w : World) (A : Nat → Addr) (hs : SentsOn S w A) (h2 : RowAt eStr w (.slice a2 ks.length c2) ks) (h3 : IntsAt w (.slice a3 ki.length c3) ki) (hl2 : ks.length ≤ 1000000) (hl3 : ki.length ≤ 1000000) :
    Calls Tryd.prog 16 #[.agg #[.bool false, .slice none 0 0, .slice a2 ks.length c2, .slice a3 ki.length c3]] w fun e w' => (∃ a c, e = .returned (.tuple #[.slice a L.length c, .nilIface]) ∧ BytesAt w' (.slice a L.length c) L) ∧ Below w.heap.size w w' := by
  subst hL
  exact (nodePut_inner [] ks ki hn none a2 a3 0 c2 c3 w A hs (RowAt.nil _ _) h2 h3 (by simp) hl2 hl3).mono fun e w' ⟨⟨a, c, he, ho⟩, hb⟩ => ⟨⟨a, c, he, ho.bytes⟩, hb⟩
set_option maxRecDepth 100000 in
set_option maxHeartbeats 4000000 in
theorem nodeGet_innerAt (l : List UInt8) (fin : Bool) (hfin : innerOk l = fin) (a : Option Addr) (c : Nat) (w : World) (A : Nat → Addr) {S : Nat → Prop} [Has S 1] [Has S 2] (hs : SentsOn S w A) (hb : BytesAt w (.slice a l.length c) l) (hl : l.length ≤ 1000000) :
    Calls Tryd.prog 17 #[.bool false, .slice a l.length c] w fun e w' => (if fin = true then GivesNode w A false [] (innerG l).1.1 (innerG l).1.2 0 e w' else GivesNode w A false [] [] [] 1 e w') ∧ Below w.heap.size w w' := by
  have HS := Lib.hid hs
  have HB := Lib.hid hb
  have HFIN := Lib.hid hfin
  obtain ⟨many, s0, hm⟩ : ∃ n s, numR l 2 rd0 = (n, s) := ⟨_, _, rfl⟩
  obtain ⟨k0, s1, hf1⟩ : ∃ n s, numR l 4 s0 = (n, s) := ⟨_, _, rfl⟩
  obtain ⟨m1, hm1⟩ : ∃ m, many - 1 = m := ⟨_, rfl⟩
  have hm6 : many < 65536 := by have := numR_lt l 2 rd0; rw [hm] at this; exact this
  have hk06 : k0 < 4294967296 := by have := numR_lt l 4 s0; rw [hf1] at this; exact this
  have hp0 : s0.pos = 2 := by have := numR_pos l 2 rd0; rw [hm] at this; exact this
  have hp1 : s1.pos = 6 := by have := numR_pos l 4 s0; rw [hf1, hp0] at this; exact this
  have hge0 : s1.bad = false → s1.pos ≤ l.length := fun h => by
    have := numR_good (l := l) (x := 4) (s := s0) (by rw [hf1]; exact h)
    rw [hp1]; have := this.2.1; omega
  have hG : innerG l = innerR l (k0 : Int) s1 m1 := by unfold innerG firstR manyR; rw [hm]; simp only; rw [hf1, hm1]
  have HM := Lib.hid hm
  have HF1 := Lib.hid hf1
  have HG := Lib.hid hG
  have HGE := Lib.hid hge0
  clear hs hb hfin hm hG hge0 hf1
  have hpos0 : rd0.pos ≤ 90000000 := by simp [rd0]
  have g1 : w.cell? ⟨0, 0, none⟩ = some (.iface 189 (.pointer (some (A 1)))) := HS.out.cell 1 (by decide) (by decide)
  have l1 := World.block_lt_of_cell? w _ g1
  simp only at l1
  have L1 := Lib.hid l1
  have G1 := Lib.hid g1
  clear l1 g1
  go_enter Tryd.func17, Tryd.ntmps17
  go_upto_region 3 with fail
  refine wp_name fun W hW => ?_
  have HR := Lib.hid (show BoxAt W w.heap.size [.bool false, .slice none 0 0, .slice none 0 0, .slice none 0 0] by rw [hW]; exact ((BoxAt.new w [_, _, _, _] _).alloc _).alloc _)
  have HX := Lib.hid (show BoxAt W (w.heap.size + 1) [.slice a l.length c, .int .i64 ((rd0.pos : Nat) : Int), .bool rd0.bad] by rw [hW]; exact (BoxAt.newAt _ _ (by simp) [_, _, _] _).alloc _)
  have HN := Lib.hid (show BoxAt W (w.heap.size + 2) [.bool false, .slice none 0 0, .slice none 0 0, .slice none 0 0] by rw [hW]; exact BoxAt.newAt _ _ (by simp) [_, _, _, _] _)
  have HB0 := Lib.hid (show Below w.heap.size w W by rw [hW]; go_grown)
  clear hW
  have HL0 := Lib.hid (show GetI w a c l rd0 [] [] none 0 none 0 W from ⟨HR.out, HX.out, HN.out, OwnR.nil _ _ _, OwnI.nil _ _, HB0.out⟩)
  go_upto_region 5 with (go_at_call 52; (refine (rdNum_is _ 2 _ _ l rd0 s0 many HM.out rfl _ A (HS.out.below HL0.out.2.2.2.2.2) (HB.out.below HL0.out.2.2.2.2.2) HL0.out.2.1 (by decide) (by decide) (Nat.le_trans hpos0 (by decide))).mono ?_); (rintro e w1 ⟨rfl, hxa, hga⟩); (have HL1 := Lib.hid (HL0.out.rd hxa hga)); (clear hxa hga))
  obtain ⟨n0, n1, n2, n3⟩ := HL1.out.2.2.1.four
  have b0 := BoxW.cell n0
  have b1 := BoxW.cell n1
  have b2 := BoxW.cell n2
  have b3 := BoxW.cell n3
  refine wp_region_mix (fun w' => ∃ x : BoxW w1 (w.heap.size + 2), w' = x.world) [7] 8 (by kernel_rfl) rfl ?_
  refine mix_reads_lit [0, 1, 2] 5 (by kernel_rfl) (by kernel_rfl) (by kernel_rfl) (by kernel_rfl) rfl (BoxW.of rfl) ?_
  simp only [pick, List.filterMap_cons, List.filterMap_nil, List.getElem?_cons_succ, List.getElem?_cons_zero]
  repeat (first | go_big_quiet_step (fail) | quiet_step (fail))
  refine wpQuiet_nil ?_
  have HD1 := Lib.hid HL1.out.drew
  refine mix_deed_lit 3 4 (by kernel_rfl) (by kernel_rfl) rfl (fun K hK => ?_)
  simp only [comesUp, List.getElem?_cons_succ, List.getElem?_cons_zero]
  refine if_mk rfl ?_
  go_simp
  refine (rdNum_is _ 4 _ _ l s0 s1 k0 HF1.out rfl _ A (HS.out.below HD1.out.2.2.2.2.2) (HB.out.below HD1.out.2.2.2.2.2) HD1.out.2.1 (by decide) (by decide) (by omega)).mono ?_
  rintro e w2 ⟨rfl, hxn, hgn⟩
  have HL2 := Lib.hid (HD1.out.rd hxn hgn)
  have sm2 : w2.heap[w.heap.size + 2]? = w1.heap[w.heap.size + 2]? := hgn.block _ (by have := HL1.out.size; show _ < w1.heap.size; omega) (by simp)
  refine hK _ _ (fun _ _ => BoxW.of sm2) ?_
  clear hK K hxn hgn
  refine mix_deed_lit 4 3 (by kernel_rfl) (by kernel_rfl) rfl (fun K hK => ?_)
  simp only [comesUp, List.getElem?_cons_succ, List.getElem?_cons_zero]
  refine if_mk rfl ?_
  go_simp
  have HL3 := Lib.hid (HL2.out.below ((Below.refl _ _).alloc (Nat.le_refl _) (.cells #[.int .i64 (k0 : Int)] 3)))
  have sm3 : (w2.alloc (.cells #[.int .i64 (k0 : Int)] 3)).heap[w.heap.size + 2]? = w1.heap[w.heap.size + 2]? := (Below.heap_alloc _ _ _ (by have := HL2.out.size; omega)).trans sm2
  refine hK _ _ (fun _ _ => BoxW.of sm3) ?_
  clear hK K
  refine mix_deed_lit 5 2 (by kernel_rfl) (by kernel_rfl) rfl (fun K hK => ?_)
  simp only [comesUp, List.getElem?_cons_succ, List.getElem?_cons_zero]
  refine if_mk rfl ?_
  refine step_append_row eInt eInt_ok (.tmp 24) (.tmp 27) ?ho (w.heap.size + 3) (.slice none 0 0) [] ?hs ?own [(k0 : Int)] ?src ?c3 ?c4 ?c5 ?_
  case ho => rfl
  case hs => rfl
  case own => exact HL3.out.2.2.2.2.1.toR
  case src => exact RowAt.one (E := eInt) w2 (k0 : Int) #[.int .i64 (k0 : Int)] 3 rfl _ rfl
  case c3 => simp
  case c4 => simp
  case c5 => exact HL3.out.size
  intro v3 w3 hown hgrow _
  obtain ⟨a3, c3, hv3, -, -⟩ := hown.slice
  rw [show (([] : List Int) ++ [(k0 : Int)]).length = 1 from rfl] at hv3
  subst hv3
  have sm4 : w3.heap[w.heap.size + 2]? = w1.heap[w.heap.size + 2]? := (hgrow.block _ (by have := HL3.out.size; omega) (by simp [Value.ownBlock])).trans sm3
  have HL4 := Lib.hid (HL3.out.below (grown_below hgrow (fun k hk => by simp [Value.ownBlock] at hk) (Nat.le_refl _)))
  refine hK _ _ (fun _ _ => BoxW.of sm4) ?_
  clear hK K
  refine mix_reads_lit [6] 1 (by kernel_rfl) (by kernel_rfl) (by kernel_rfl) (by kernel_rfl) rfl (BoxW.of sm4) ?_
  simp only [pick, List.filterMap_cons, List.filterMap_nil, List.getElem?_cons_succ, List.getElem?_cons_zero]
  repeat (first | go_big_quiet_step (fail) | quiet_step (fail))
  refine wpQuiet_nil ?_
  refine mix_deed_lit 7 0 (by kernel_rfl) (by kernel_rfl) rfl (fun K hK => ?_)
  simp only [comesUp, List.getElem?_cons_succ, List.getElem?_cons_zero]
  refine if_mk rfl ?_
  have z3 := HL4.out.2.2.1.at 3 _ rfl
  have zf3 := HL4.out.2.2.1.free 3 _ rfl
  go_simp
  refine hK _ _ (fun h => by simp [keeps] at h) ?_
  clear hK K
  refine mix_done_lit (by kernel_rfl) ?_
  have HL5 := Lib.hid (show GetI w a c l s1 [] [(k0 : Int)] none 0 a3 c3 (w3.setCell ⟨w.heap.size + 2, 3, none⟩ (.slice a3 1 c3)) from ⟨HL4.out.1.set (by omega) _ _, HL4.out.2.1.set (by omega) _ _, by simpa [List.set] using HL4.out.2.2.1.put 3 (.slice a3 1 c3), HL4.out.2.2.2.1.keep (grownBy_set (World.grownBy.refl _ (some (w.heap.size + 2))) 3 _) (by omega), (OwnI.ofR hown).keep (grownBy_set (World.grownBy.refl _ (some (w.heap.size + 2))) 3 _) (by omega), HL4.out.2.2.2.2.2.setCell (by simp) _⟩)
  clear hown hgrow sm2 sm3 sm4 b0 b1 b2 b3 n0 n1 n2 n3 z3 zf3 HD1 HL2 HL3 HL4
  go_wp2_with fail
  go_loopw [9] (fun i wr => ∃ k ks ki s a2 c2 a3 c3, k ≤ m1 ∧ i = .int .i64 (k : Nat) ∧ innerR l (k0 : Int) s1 k = ((ks, ki), s) ∧ (s.bad = false → s.pos ≤ l.length) ∧ GetI w a c l s ks ki a2 c2 a3 c3 wr) (fun i _ => m1 - (intOf i).toNat)
  case atStart => exact ⟨0, [], [(k0 : Int)], s1, none, 0, a3, c3, by omega, rfl, rfl, HGE.out, HL5.out⟩
  case round =>
    obtain ⟨k, ks, ki, s, a2, c2, a3, c3, hk, rfl, hls, hsp, hgl⟩ := hrel
    have hel := innerR_len l (k0 : Int) s1 k
    rw [hls] at hel
    simp only at hel
    have hel2 : ks.length ≤ 1000000 := by omega
    have hel3 : ki.length ≤ 1000000 := by omega
    have HLS := Lib.hid hls
    have HGL := Lib.hid hgl
    obtain ⟨x0, x1, x2⟩ := hgl.2.1.three
    obtain ⟨n0, n1, n2, n3⟩ := hgl.2.2.1.four
    clear hls hgl hel
    by_cases hlt : k < m1
    · have hlt1 : (k : Int) < (many : Int) - 1 := by omega
      cases hbd : s.bad with
      | true =>
        rw [hbd] at x2
        have hf : fin = false := by rw [← HFIN.out]; unfold innerOk; rw [HG.out, innerR_bad HLS.out hbd hk]; simp [hbd]
        subst hf
        clear HFIN
        go_wp2_with (first
          | (go_at_call 16; (refine (nodePutI_any ks ki _ _ _ _ _ A (HS.out.below HGL.out.2.2.2.2.2) (HGL.out.2.2.2.1.at eStr_ok) HGL.out.2.2.2.2.1.ints hel2 hel3).mono ?_); (rintro e w2 ⟨⟨v, ev, rfl⟩, hb2⟩); (have HL2 := Lib.hid (HGL.out.below hb2)); (clear x0 x1 x2 n0 n1 n2 n3); (obtain ⟨x0, x1, x2⟩ := HL2.out.2.1.three); (rw [hbd] at x2); (have gs := (HL2.out.2.2.2.2.2.cell (p := ⟨0, 0, none⟩) L1.out).trans G1.out); (clear hb2))
          | (go_at_call 55; (refine (faultNew_any _ 1 _ _ A _ (sent_err 1 (by decide) (by decide)) (by decide) (Nat.le_refl _)).mono ?_); (rintro e wn ⟨⟨vn, rfl, hvn⟩, hbn⟩); (have HLn := Lib.hid (HL2.out.below hbn)); (have HVn := Lib.hid (hvn.mono (B' := w.heap.size + 1) (by have := HL2.out.size; omega))); (obtain ⟨z0, z1, z2, z3⟩ := HLn.out.1.four); (have f0 := HLn.out.1.free 0 _ rfl); (have f1 := HLn.out.1.free 1 _ rfl); (have f2 := HLn.out.1.free 2 _ rfl); (have f3 := HLn.out.1.free 3 _ rfl); (clear hbn hvn)))
        have hz := zero_box HLn.out.1 (.bool false) (.slice none 0 0) (.slice none 0 0) (.slice none 0 0)
        obtain ⟨k0', k1, k2, k3⟩ := hz.four
        refine bodyPost_ret (v := .tuple #[.agg #[.bool false, .slice none 0 0, .slice none 0 0, .slice none 0 0], vn]) (by simp [results, Tryd.results17, go_sem, k0', k1, k2, k3]) rfl ?_
        refine ⟨?_, (((HLn.out.2.2.2.2.2.setCell (Nat.le_refl _) _).setCell (Nat.le_refl _) _).setCell (Nat.le_refl _) _).setCell (Nat.le_refl _) _⟩
        try rw [if_neg (by decide)]
        exact ⟨none, none, none, 0, 0, 0, vn, [-1], rfl, OwnR.nil _ _ _, OwnR.nil _ _ _, OwnI.nil _ _, ((((HVn.out.setLow _ (Nat.lt_succ_self _)).setLow _ (Nat.lt_succ_self _)).setLow _ (Nat.lt_succ_self _)).setLow _ (Nat.lt_succ_self _)).mono (Nat.le_succ _)⟩
      | false =>
        rw [hbd] at x2
        have hsp2 := hsp hbd
        clear hsp
        obtain ⟨t, s2, h1⟩ : ∃ t s2, textR l s = (t, s2) := ⟨_, _, rfl⟩
        obtain ⟨kd, s3, h2⟩ : ∃ n s3, numR l 4 s2 = (n, s3) := ⟨_, _, rfl⟩
        have p1 : s2.pos ≤ s.pos + 256 := by have := textR_pos l s; rw [h1] at this; exact this
        have HST := Lib.hid (innerR_at HLS.out hbd h1 h2)
        have HSP := Lib.hid (show s3.bad = false → s3.pos ≤ l.length from fun h => by have := kidR_end (l := l) (s := s) (by unfold kidR; rw [h1]; simp only; rw [h2]; exact h); unfold kidR at this; rw [h1] at this; simp only at this; rw [h2] at this; exact this)
        have T1 := Lib.hid h1
        have T2 := Lib.hid h2
        clear h1 h2
        go_upto_region 12 with (go_at_call 53; (refine (rdText_is _ a c l s s2 t T1.out _ A (HS.out.below HGL.out.2.2.2.2.2) (HB.out.below HGL.out.2.2.2.2.2) (fun h => bytes_apart HB.out _ (Nat.le_succ _) h) HGL.out.2.1 (by omega) (by omega)).mono ?_); (rintro e wa ⟨rfl, hxa, hga⟩); (have HLa := Lib.hid (HGL.out.rd hxa hga)); (clear hxa hga))
        clear x0 x1 x2 n0 n1 n2 n3
        obtain ⟨n0, n1, n2, n3⟩ := HLa.out.2.2.1.four
        have b0 := BoxW.cell n0
        have b1 := BoxW.cell n1
        have b2 := BoxW.cell n2
        have b3 := BoxW.cell n3
        refine wp_region_mix (fun w' => ∃ x : BoxW wa (w.heap.size + 2), w' = x.world) [12, 13, 14] 15 (by kernel_rfl) rfl ?_
        refine mix_reads_lit [0, 1, 2, 5, 6, 7] 9 (by kernel_rfl) (by kernel_rfl) (by kernel_rfl) (by kernel_rfl) rfl (BoxW.of rfl) ?_
        simp only [pick, List.filterMap_cons, List.filterMap_nil, List.getElem?_cons_succ, List.getElem?_cons_zero]
        repeat (first | go_big_quiet_step (fail) | quiet_step (fail))
        refine wpQuiet_nil ?_
        have HD1 := Lib.hid HLa.out.drew
        refine mix_deed_lit 3 8 (by kernel_rfl) (by kernel_rfl) rfl (fun K hK => ?_)
        simp only [comesUp, List.getElem?_cons_succ, List.getElem?_cons_zero]
        refine if_mk rfl ?_
        go_simp
        have HD2 := Lib.hid (HD1.out.below ((Below.refl _ _).alloc (Nat.le_refl _) (.cells #[.string t] 9)))
        have sm2 : (wa.drew.alloc (.cells #[.string t] 9)).heap[w.heap.size + 2]? = wa.heap[w.heap.size + 2]? := Below.heap_alloc _ _ _ (by have := HD1.out.size; omega)
        refine hK _ _ (fun _ _ => BoxW.of sm2) ?_
        clear hK K
        refine mix_deed_lit 4 7 (by kernel_rfl) (by kernel_rfl) rfl (fun K hK => ?_)
        simp only [comesUp, List.getElem?_cons_succ, List.getElem?_cons_zero]
        refine if_mk rfl ?_
        refine step_append_row eStr eStr_ok (.tmp 49) (.tmp 51) ?ho (w.heap.size + 3) (.slice a2 ks.length c2) ks ?hs ?own [t] ?src ?c3 ?c4 ?c5 ?_
        case ho => rfl
        case hs => rfl
        case own => exact HD2.out.2.2.2.1
        case src => exact RowAt.one (E := eStr) wa.drew t #[.string t] 9 rfl _ rfl
        case c3 => simp; omega
        case c4 => simp; omega
        case c5 => exact HD2.out.size
        intro v4 w4 hown4 hgrow4 _
        obtain ⟨a4, c4, hv4, -, -⟩ := hown4.slice
        subst hv4
        have hk4 := HD2.out.keys (m := ks) (v2 := .nilIface) hgrow4
        have sm4 : w4.heap[w.heap.size + 2]? = wa.heap[w.heap.size + 2]? := (hgrow4.block _ (by have := HD2.out.size; exact Nat.lt_of_lt_of_le (Nat.lt_succ_self _) this) (fun e => by have := (HD2.out.2.2.2.1.lt _ e.symm).1; omega)).trans sm2
        have sz4 : w.heap.size + 3 ≤ w4.heap.size := hk4.2.2.1.lt
        refine hK _ _ (fun _ _ => BoxW.of sm4) ?_
        clear hK K
        refine mix_reads_lit [11] 6 (by kernel_rfl) (by kernel_rfl) (by kernel_rfl) (by kernel_rfl) rfl (BoxW.of sm4) ?_
        simp only [pick, List.filterMap_cons, List.filterMap_nil, List.getElem?_cons_succ, List.getElem?_cons_zero]
        repeat (first | go_big_quiet_step (fail) | quiet_step (fail))
        refine wpQuiet_nil ?_
        refine mix_deed_lit 8 5 (by kernel_rfl) (by kernel_rfl) rfl (fun K hK => ?_)
        simp only [comesUp, List.getElem?_cons_succ, List.getElem?_cons_zero]
        refine if_mk rfl ?_
        go_simp
        refine (rdNum_is _ 4 _ _ l s2 s3 kd T2.out rfl _ A (HS.out.below hk4.2.2.2.2) (HB.out.below hk4.2.2.2.2) hk4.2.1 (by decide) (by decide) (by omega)).mono ?_
        rintro e w5 ⟨rfl, hx5, hg5⟩
        have o5 := hown4.keep hg5 (by omega)
        have i5 := hk4.2.2.2.1.keep hg5 (by omega)
        have x5 := hk4.2.2.1.grownR hg5 (by simp)
        have r5 := hk4.1.grownR hg5 (by simp)
        have be5 := hk4.2.2.2.2.trans (grown_below hg5 (fun k hk => by simp at hk; omega) hk4.2.2.2.2.size)
        have sm5 : w5.heap[w.heap.size + 2]? = wa.heap[w.heap.size + 2]? := (hg5.block _ (by omega) (by simp)).trans sm4
        have sz5 : w.heap.size + 3 ≤ w5.heap.size := x5.lt
        refine hK _ _ (fun _ _ => BoxW.of sm5) ?_
        clear hK K
        refine mix_deed_lit 9 4 (by kernel_rfl) (by kernel_rfl) rfl (fun K hK => ?_)
        simp only [comesUp, List.getElem?_cons_succ, List.getElem?_cons_zero]
        refine if_mk rfl ?_
        go_simp
        have sm6 : (w5.alloc (.cells #[.int .i64 (kd : Int)] 3)).heap[w.heap.size + 2]? = wa.heap[w.heap.size + 2]? := (Below.heap_alloc _ _ _ (by omega)).trans sm5
        refine hK _ _ (fun _ _ => BoxW.of sm6) ?_
        clear hK K
        refine mix_deed_lit 10 3 (by kernel_rfl) (by kernel_rfl) rfl (fun K hK => ?_)
        simp only [comesUp, List.getElem?_cons_succ, List.getElem?_cons_zero]
        refine if_mk rfl ?_
        refine step_append_row eInt eInt_ok (.tmp 54) (.tmp 57) ?ho (w.heap.size + 3) (.slice a3 ki.length c3) ki ?hs ?own [(kd : Int)] ?src ?c3 ?c4 ?c5 ?_
        case ho => rfl
        case hs => rfl
        case own => exact (i5.alloc _).toR
        case src => exact RowAt.one (E := eInt) w5 (kd : Int) #[.int .i64 (kd : Int)] 3 rfl _ rfl
        case c3 => simp; omega
        case c4 => simp; omega
        case c5 => simp; omega
        intro v7 w7 hown7 hgrow7 _
        obtain ⟨a7, c7, hv7, -, -⟩ := hown7.slice
        subst hv7
        have hob : ∀ k, (Value.slice a3 ki.length c3).ownBlock = some k → w.heap.size + 3 ≤ k := fun k hk => (i5.lt k hk).1
        have sm7 : w7.heap[w.heap.size + 2]? = wa.heap[w.heap.size + 2]? := (hgrow7.block _ (by simp; omega) (fun e => by have := hob _ e.symm; omega)).trans sm6
        have o7 := (o5.alloc (.cells #[.int .i64 (kd : Int)] 3)).grown hgrow7 (own_apart o5 i5).1
        have x7 := (x5.alloc (.cells #[.int .i64 (kd : Int)] 3)).grownR hgrow7 (fun e => by have := hob _ e; omega)
        have r7 := (r5.alloc (.cells #[.int .i64 (kd : Int)] 3)).grownR hgrow7 (fun e => by have := hob _ e; omega)
        have d7 := (hx5.alloc (.cells #[.int .i64 (kd : Int)] 3)).grownR hgrow7 (fun e => by have := hob _ e; omega)
        have be7 := (be5.alloc be5.size (.cells #[.int .i64 (kd : Int)] 3)).trans (grown_below hgrow7 (fun k hk => by have := hob _ hk; omega) (by simp; omega))
        refine hK _ _ (fun _ _ => BoxW.of sm7) ?_
        clear hK K
        have y2 := x7.at 2 _ rfl
        have y3 := x7.at 3 _ rfl
        have yf2 := x7.free 2 _ rfl
        have yf3 := x7.free 3 _ rfl
        refine mix_deed_lit 12 2 (by kernel_rfl) (by kernel_rfl) rfl (fun K hK => ?_)
        simp only [comesUp, List.getElem?_cons_succ, List.getElem?_cons_zero]
        refine if_mk rfl ?_
        go_simp
        refine hK _ _ (fun h => by simp [keeps] at h) ?_
        clear hK K
        refine mix_deed_lit 13 1 (by kernel_rfl) (by kernel_rfl) rfl (fun K hK => ?_)
        simp only [comesUp, List.getElem?_cons_succ, List.getElem?_cons_zero]
        refine if_mk rfl ?_
        go_simp
        refine hK _ _ (fun h => by simp [keeps] at h) ?_
        clear hK K
        refine mix_deed_lit 14 0 (by kernel_rfl) (by kernel_rfl) rfl (fun K hK => ?_)
        simp only [comesUp, List.getElem?_cons_succ, List.getElem?_cons_zero]
        refine if_mk rfl ?_
        have q7 := x7.put 2 (.slice a4 (ks ++ [t]).length c4)
        have y3' := q7.at 3 _ rfl
        have yf3' := q7.free 3 _ rfl
        go_simp
        refine hK _ _ (fun h => by simp [keeps] at h) ?_
        clear hK K
        refine mix_done_lit (by kernel_rfl) ?_
        have HLz0 := Lib.hid (show GetI w a c l s3 (ks ++ [t]) (ki ++ [(kd : Int)]) a4 c4 a7 c7 ((w7.setCell ⟨w.heap.size + 2, 2, none⟩ (.slice a4 (ks ++ [t]).length c4)).setCell ⟨w.heap.size + 2, 3, none⟩ (.slice a7 (ki ++ [(kd : Int)]).length c7)) from
          ⟨(r7.set (by omega) _ _).set (by omega) _ _, (d7.set (by omega) _ _).set (by omega) _ _, by simpa [List.set] using q7.put 3 (.slice a7 (ki ++ [(kd : Int)]).length c7), (o7.keep (grownBy_set (World.grownBy.refl _ (some (w.heap.size + 2))) 2 _) (by omega)).keep (grownBy_set (World.grownBy.refl _ (some (w.heap.size + 2))) 3 _) (by omega), ((OwnI.ofR hown7).keep (grownBy_set (World.grownBy.refl _ (some (w.heap.size + 2))) 2 _) (by omega)).keep (grownBy_set (World.grownBy.refl _ (some (w.heap.size + 2))) 3 _) (by omega), (be7.setCell (by simp) _).setCell (by simp) _⟩)
        have HLz := Lib.hid (show GetI w a c l s3 (ks ++ [t]) (ki ++ [(kd : Int)]) a4 c4 a7 c7 ((w7.setCell ⟨w.heap.size + 1 + 1, 2, none⟩ (.slice a4 (ks.length + 1) c4)).setCell ⟨w.heap.size + 1 + 1, 3, none⟩ (.slice a7 (ki.length + 1) c7)) from by
          have h := HLz0.out
          rw [show (ks ++ [t]).length = ks.length + 1 by simp, show (ki ++ [(kd : Int)]).length = ki.length + 1 by simp] at h
          exact h)
        clear hown4 hgrow4 hk4 sm4 hx5 hg5 o5 i5 x5 r5 be5 sm5 sm6 hown7 hgrow7 hob sm7 o7 x7 r7 d7 be7 y2 y3 yf2 yf3 q7 y3' yf3' b0 b1 b2 b3 n0 n1 n2 n3 sm2
        go_wp2_with fail
        go_roundw
        case rel => exact ⟨k + 1, ks ++ [t], ki ++ [(kd : Int)], s3, a4, c4, a7, c7, by omega, by go_num, HST.out, fun h => HSP.out h, HLz.out⟩
        case measure => simp [intOf]; omega
    · have hkk : k = m1 := by omega
      have hge1 : (many : Int) - 1 ≤ (k : Int) := by omega
      cases hbd : s.bad with
      | true =>
        rw [hbd] at x2
        have hf : fin = false := by rw [← HFIN.out]; unfold innerOk; rw [HG.out, innerR_bad HLS.out hbd hk]; simp [hbd]
        subst hf
        clear HFIN
        go_wp2_with (first
          | (go_at_call 16; (refine (nodePutI_any ks ki _ _ _ _ _ A (HS.out.below HGL.out.2.2.2.2.2) (HGL.out.2.2.2.1.at eStr_ok) HGL.out.2.2.2.2.1.ints hel2 hel3).mono ?_); (rintro e w2 ⟨⟨v, ev, rfl⟩, hb2⟩); (have HL2 := Lib.hid (HGL.out.below hb2)); (clear x0 x1 x2 n0 n1 n2 n3); (obtain ⟨x0, x1, x2⟩ := HL2.out.2.1.three); (rw [hbd] at x2); (have gs := (HL2.out.2.2.2.2.2.cell (p := ⟨0, 0, none⟩) L1.out).trans G1.out); (clear hb2))
          | (go_at_call 55; (refine (faultNew_any _ 1 _ _ A _ (sent_err 1 (by decide) (by decide)) (by decide) (Nat.le_refl _)).mono ?_); (rintro e wn ⟨⟨vn, rfl, hvn⟩, hbn⟩); (have HLn := Lib.hid (HL2.out.below hbn)); (have HVn := Lib.hid (hvn.mono (B' := w.heap.size + 1) (by have := HL2.out.size; omega))); (obtain ⟨z0, z1, z2, z3⟩ := HLn.out.1.four); (have f0 := HLn.out.1.free 0 _ rfl); (have f1 := HLn.out.1.free 1 _ rfl); (have f2 := HLn.out.1.free 2 _ rfl); (have f3 := HLn.out.1.free 3 _ rfl); (clear hbn hvn)))
        have hz := zero_box HLn.out.1 (.bool false) (.slice none 0 0) (.slice none 0 0) (.slice none 0 0)
        obtain ⟨k0', k1, k2, k3⟩ := hz.four
        refine bodyPost_ret (v := .tuple #[.agg #[.bool false, .slice none 0 0, .slice none 0 0, .slice none 0 0], vn]) (by simp [results, Tryd.results17, go_sem, k0', k1, k2, k3]) rfl ?_
        refine ⟨?_, (((HLn.out.2.2.2.2.2.setCell (Nat.le_refl _) _).setCell (Nat.le_refl _) _).setCell (Nat.le_refl _) _).setCell (Nat.le_refl _) _⟩
        try rw [if_neg (by decide)]
        exact ⟨none, none, none, 0, 0, 0, vn, [-1], rfl, OwnR.nil _ _ _, OwnR.nil _ _ _, OwnI.nil _ _, ((((HVn.out.setLow _ (Nat.lt_succ_self _)).setLow _ (Nat.lt_succ_self _)).setLow _ (Nat.lt_succ_self _)).setLow _ (Nat.lt_succ_self _)).mono (Nat.le_succ _)⟩
      | false =>
        rw [hbd] at x2
        have HLG := Lib.hid (show innerG l = ((ks, ki), s) by rw [HG.out, ← hkk]; exact HLS.out)
        have hlk : innerOk l = (nodeB false [] ks ki && (nodeL false [] ks ki == l)) := by unfold innerOk; rw [HLG.out]; simp [hbd]
        cases hn : nodeB false [] ks ki with
        | false =>
          have HNB := Lib.hid hn
          have hf : fin = false := by rw [← HFIN.out, hlk, hn]; rfl
          clear hlk hn
          subst hf
          clear HFIN
          go_wp2_with (first
            | (go_at_call 16; (refine (nodePutI_bad ks ki HNB.out _ _ _ _ _ A (HS.out.below HGL.out.2.2.2.2.2) (HGL.out.2.2.2.1.at eStr_ok) HGL.out.2.2.2.2.1.ints hel2 hel3).mono ?_); (rintro e w2 ⟨⟨t, x, rfl⟩, hb2⟩); (have HL2 := Lib.hid (HGL.out.below hb2)); (clear x0 x1 x2 n0 n1 n2 n3); (obtain ⟨x0, x1, x2⟩ := HL2.out.2.1.three); (rw [hbd] at x2); (have gs := (HL2.out.2.2.2.2.2.cell (p := ⟨0, 0, none⟩) L1.out).trans G1.out); (clear hb2))
            | (go_at_call 55; (refine (faultNew_any _ 1 _ _ A _ (sent_err 1 (by decide) (by decide)) (by decide) (Nat.le_refl _)).mono ?_); (rintro e wn ⟨⟨vn, rfl, hvn⟩, hbn⟩); (have HLn := Lib.hid (HL2.out.below hbn)); (have HVn := Lib.hid (hvn.mono (B' := w.heap.size + 1) (by have := HL2.out.size; omega))); (obtain ⟨z0, z1, z2, z3⟩ := HLn.out.1.four); (have f0 := HLn.out.1.free 0 _ rfl); (have f1 := HLn.out.1.free 1 _ rfl); (have f2 := HLn.out.1.free 2 _ rfl); (have f3 := HLn.out.1.free 3 _ rfl); (clear hbn hvn)))
          have hz := zero_box HLn.out.1 (.bool false) (.slice none 0 0) (.slice none 0 0) (.slice none 0 0)
          obtain ⟨k0', k1, k2, k3⟩ := hz.four
          refine bodyPost_ret (v := .tuple #[.agg #[.bool false, .slice none 0 0, .slice none 0 0, .slice none 0 0], vn]) (by simp [results, Tryd.results17, go_sem, k0', k1, k2, k3]) rfl ?_
          refine ⟨?_, (((HLn.out.2.2.2.2.2.setCell (Nat.le_refl _) _).setCell (Nat.le_refl _) _).setCell (Nat.le_refl _) _).setCell (Nat.le_refl _) _⟩
          try rw [if_neg (by decide)]
          exact ⟨none, none, none, 0, 0, 0, vn, [-1], rfl, OwnR.nil _ _ _, OwnR.nil _ _ _, OwnI.nil _ _, ((((HVn.out.setLow _ (Nat.lt_succ_self _)).setLow _ (Nat.lt_succ_self _)).setLow _ (Nat.lt_succ_self _)).setLow _ (Nat.lt_succ_self _)).mono (Nat.le_succ _)⟩
        | true =>
          have HNB := Lib.hid hn
          obtain ⟨L, hL⟩ : ∃ L, nodeL false [] ks ki = L := ⟨_, rfl⟩
          have HL := Lib.hid hL
          have HEQ := Lib.hid (show (L == l) = fin by rw [← HFIN.out, hlk, hn, hL]; rfl)
          clear hlk hn hL
          cases fin with
          | false =>
            clear HFIN
            go_wp2_with (first
              | (go_at_call 16; (refine (nodePutI_ok ks ki HNB.out L HL.out _ _ _ _ _ A (HS.out.below HGL.out.2.2.2.2.2) (HGL.out.2.2.2.1.at eStr_ok) HGL.out.2.2.2.2.1.ints hel2 hel3).mono ?_); (rintro e w2 ⟨⟨ay, cy, rfl, hy2⟩, hb2⟩); (have HL2 := Lib.hid (HGL.out.below hb2)); (clear x0 x1 x2 n0 n1 n2 n3); (obtain ⟨x0, x1, x2⟩ := HL2.out.2.1.three); (rw [hbd] at x2); (have HY2 := Lib.hid hy2); (clear hy2); (clear hb2))
              | (go_at_call 54; (refine (equal_is _ _ L l false HEQ.out _ HY2.out (HB.out.below HL2.out.2.2.2.2.2)).mono ?_); (rintro e w3 ⟨rfl, hb3⟩); (have HLy := Lib.hid (HL2.out.below hb3)); (have gs := (HLy.out.2.2.2.2.2.cell (p := ⟨0, 0, none⟩) L1.out).trans G1.out); (clear hb3))
              | (go_at_call 55; (refine (faultNew_any _ 1 _ _ A _ (sent_err 1 (by decide) (by decide)) (by decide) (Nat.le_refl _)).mono ?_); (rintro e wn ⟨⟨vn, rfl, hvn⟩, hbn⟩); (have HLn := Lib.hid (HLy.out.below hbn)); (have HVn := Lib.hid (hvn.mono (B' := w.heap.size + 1) (by have := HLy.out.size; omega))); (obtain ⟨z0, z1, z2, z3⟩ := HLn.out.1.four); (have f0 := HLn.out.1.free 0 _ rfl); (have f1 := HLn.out.1.free 1 _ rfl); (have f2 := HLn.out.1.free 2 _ rfl); (have f3 := HLn.out.1.free 3 _ rfl); (clear hbn hvn)))
            have hz := zero_box HLn.out.1 (.bool false) (.slice none 0 0) (.slice none 0 0) (.slice none 0 0)
            obtain ⟨k0', k1, k2, k3⟩ := hz.four
            refine bodyPost_ret (v := .tuple #[.agg #[.bool false, .slice none 0 0, .slice none 0 0, .slice none 0 0], vn]) (by simp [results, Tryd.results17, go_sem, k0', k1, k2, k3]) rfl ?_
            refine ⟨?_, (((HLn.out.2.2.2.2.2.setCell (Nat.le_refl _) _).setCell (Nat.le_refl _) _).setCell (Nat.le_refl _) _).setCell (Nat.le_refl _) _⟩
            try rw [if_neg (by decide)]
            exact ⟨none, none, none, 0, 0, 0, vn, [-1], rfl, OwnR.nil _ _ _, OwnR.nil _ _ _, OwnI.nil _ _, ((((HVn.out.setLow _ (Nat.lt_succ_self _)).setLow _ (Nat.lt_succ_self _)).setLow _ (Nat.lt_succ_self _)).setLow _ (Nat.lt_succ_self _)).mono (Nat.le_succ _)⟩
          | true =>
            go_wp2_with (first
              | (go_at_call 16; (refine (nodePutI_ok ks ki HNB.out L HL.out _ _ _ _ _ A (HS.out.below HGL.out.2.2.2.2.2) (HGL.out.2.2.2.1.at eStr_ok) HGL.out.2.2.2.2.1.ints hel2 hel3).mono ?_); (rintro e w2 ⟨⟨ay, cy, rfl, hy2⟩, hb2⟩); (have HL2 := Lib.hid (HGL.out.below hb2)); (clear x0 x1 x2 n0 n1 n2 n3); (obtain ⟨x0, x1, x2⟩ := HL2.out.2.1.three); (rw [hbd] at x2); (have HY2 := Lib.hid hy2); (clear hy2); (clear hb2))
              | (go_at_call 54; (refine (equal_is _ _ L l true HEQ.out _ HY2.out (HB.out.below HL2.out.2.2.2.2.2)).mono ?_); (rintro e w3 ⟨rfl, hb3⟩); (have HLy := Lib.hid (HL2.out.below hb3)); (obtain ⟨z0, z1, z2, z3⟩ := HLy.out.1.four); (have f0 := HLy.out.1.free 0 _ rfl); (have f1 := HLy.out.1.free 1 _ rfl); (have f2 := HLy.out.1.free 2 _ rfl); (have f3 := HLy.out.1.free 3 _ rfl); (obtain ⟨n0, n1, n2, n3⟩ := HLy.out.2.2.1.four); (clear hb3)))
            have hz := zero_box HLy.out.1 (.bool false) (.slice none 0 0) (.slice a2 ks.length c2) (.slice a3 ki.length c3)
            obtain ⟨k0', k1, k2, k3⟩ := hz.four
            refine bodyPost_ret (v := .tuple #[.agg #[.bool false, .slice none 0 0, .slice a2 ks.length c2, .slice a3 ki.length c3], .nilIface]) (by simp [results, Tryd.results17, go_sem, k0', k1, k2, k3]) rfl ?_
            refine ⟨?_, (((HLy.out.2.2.2.2.2.setCell (Nat.le_refl _) _).setCell (Nat.le_refl _) _).setCell (Nat.le_refl _) _).setCell (Nat.le_refl _) _⟩
            try rw [if_pos rfl]
            rw [HLG.out]
            have hq := HLy.out.2.2.2.1
            have hq2 := HLy.out.2.2.2.2.1
            exact ⟨none, a2, a3, 0, c2, c3, _, [], rfl, OwnR.nil _ _ _, ((((hq.keep (grownBy_set (World.grownBy.refl _ (some w.heap.size)) 0 _) (by omega)).keep (grownBy_set (World.grownBy.refl _ (some w.heap.size)) 1 _) (by omega)).keep (grownBy_set (World.grownBy.refl _ (some w.heap.size)) 2 _) (by omega)).keep (grownBy_set (World.grownBy.refl _ (some w.heap.size)) 3 _) (by omega)).mono (by omega), ((((hq2.keep (grownBy_set (World.grownBy.refl _ (some w.heap.size)) 0 _) (by omega)).keep (grownBy_set (World.grownBy.refl _ (some w.heap.size)) 1 _) (by omega)).keep (grownBy_set (World.grownBy.refl _ (some w.heap.size)) 2 _) (by omega)).keep (grownBy_set (World.grownBy.refl _ (some w.heap.size)) 3 _) (by omega)).mono (by omega), ErrIs.nil _ _ _⟩
end Go.Proofs.YtlobelfnjabajaaDoor
