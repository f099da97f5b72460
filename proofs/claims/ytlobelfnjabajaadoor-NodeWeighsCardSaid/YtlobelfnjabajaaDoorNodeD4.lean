/- nodes: the document's Get, of an inner node's bytes -/
import Derived.Test.YtlobelfnjabajaaDoorNodeD3
import Derived.Test.YtlobelfnjabajaaDoorNodeG2
namespace Go.Proofs.YtlobelfnjabajaaDoor
open Go.RowKit
set_option linter.unusedVariables false
set_option linter.unusedSimpArgs false

def GetRI (w : World) (ks : List ByteArray) (ki : List Int) (a2 : Option Addr) (c2 : Nat) (a3 : Option Addr) (c3 : Nat) (wr : World) : Prop :=
  BoxAt wr w.heap.size [.bool false, .slice none 0 0, .slice none 0 0, .slice none 0 0] ∧
  BoxAt wr (w.heap.size + 1) [.bool false, .slice none 0 0, .slice a2 ks.length c2, .slice a3 ki.length c3] ∧
  OwnR eStr wr (w.heap.size + 2) (.slice a2 ks.length c2) ks ∧ OwnI wr (w.heap.size + 2) (.slice a3 ki.length c3) ki ∧ Below w.heap.size w wr
section
variable {w : World} {ks : List ByteArray} {ki : List Int} {a2 : Option Addr} {c2 : Nat} {a3 : Option Addr} {c3 : Nat} {wr wr' : World}
theorem GetRI.below (h : GetRI w ks ki a2 c2 a3 c3 wr) (hb : Below wr.heap.size wr wr') : GetRI w ks ki a2 c2 a3 c3 wr' := by
  obtain ⟨h1, h3, h4, h6, h5⟩ := h
  exact ⟨h1.below hb, h3.below hb, h4.below hb (Nat.le_refl _), h6.below hb (Nat.le_refl _), h5.trans (hb.mono h5.size)⟩
theorem GetRI.size (h : GetRI w ks ki a2 c2 a3 c3 wr) : w.heap.size + 2 ≤ wr.heap.size := h.2.1.lt
theorem GetRI.addKey {t : ByteArray} {a4 : Option Addr} {c4 : Nat} (h : GetRI w ks ki a2 c2 a3 c3 wr) (ho : OwnR eStr wr' (w.heap.size + 2) (.slice a4 (ks ++ [t]).length c4) (ks ++ [t])) (hg : wr.grownBy wr' (Value.slice a2 ks.length c2).ownBlock) :
    GetRI w (ks ++ [t]) ki a4 c4 a3 c3 (wr'.setCell ⟨w.heap.size + 1, 2, none⟩ (.slice a4 (ks ++ [t]).length c4)) := by
  obtain ⟨h1, h3, h4, h6, h5⟩ := h
  have hob : ∀ k, (Value.slice a2 ks.length c2).ownBlock = some k → w.heap.size + 2 ≤ k := fun k hk => (h4.lt k hk).1
  have g := grownBy_set (World.grownBy.refl wr' (some (w.heap.size + 1))) 2 (.slice a4 (ks ++ [t]).length c4)
  exact ⟨(h1.grownR hg (fun e => by have := hob _ e; omega)).set (by omega) _ _, by simpa [List.set] using (h3.grownR hg (fun e => by have := hob _ e; omega)).put 2 (.slice a4 (ks ++ [t]).length c4), ho.keep g (by omega), (h6.grown hg (own_apart h4 h6).2).keep g (by omega), (h5.trans (grown_below hg (fun k hk => by have := hob _ hk; omega) h5.size)).setCell (by simp) _⟩
theorem GetRI.addKid {x : Int} {a4 : Option Addr} {c4 : Nat} (h : GetRI w ks ki a2 c2 a3 c3 wr) (ho : OwnI wr' (w.heap.size + 2) (.slice a4 (ki ++ [x]).length c4) (ki ++ [x])) (hg : wr.grownBy wr' (Value.slice a3 ki.length c3).ownBlock) :
    GetRI w ks (ki ++ [x]) a2 c2 a4 c4 (wr'.setCell ⟨w.heap.size + 1, 3, none⟩ (.slice a4 (ki ++ [x]).length c4)) := by
  obtain ⟨h1, h3, h4, h6, h5⟩ := h
  have hob : ∀ k, (Value.slice a3 ki.length c3).ownBlock = some k → w.heap.size + 2 ≤ k := fun k hk => (h6.lt k hk).1
  have g := grownBy_set (World.grownBy.refl wr' (some (w.heap.size + 1))) 3 (.slice a4 (ki ++ [x]).length c4)
  exact ⟨(h1.grownR hg (fun e => by have := hob _ e; omega)).set (by omega) _ _, by simpa [List.set] using (h3.grownR hg (fun e => by have := hob _ e; omega)).put 3 (.slice a4 (ki ++ [x]).length c4), (h4.grown hg (own_apart h4 h6).1).keep g (by omega), ho.keep g (by omega), (h5.trans (grown_below hg (fun k hk => by have := hob _ hk; omega) h5.size)).setCell (by simp) _⟩
end
/-- '[]int{x}' -/
theorem OwnI.lit (w : World) (base n : Nat) (hn : w.heap.size = n) (x : Int) (h : base ≤ n) : OwnI (w.alloc (.cells #[.int .i64 x] 3)) base (.slice (some ⟨n, 0, none⟩) 1 1) [x] := by
  subst hn
  exact ⟨by simp [intsV], .inr ⟨w.heap.size, 1, #[.int .i64 x], rfl, h, heap_alloc_new w _, by simp, by unfold maxLen; omega, by simp, by simp [intsV]⟩⟩
set_option maxRecDepth 100000 in
set_option maxHeartbeats 4000000 in
theorem refGet_innerAt (l : List UInt8) (fin : Bool) (hfin : innerOk l = fin) (a : Option Addr) (c : Nat) (w : World) (hb : BytesAt w (.slice a l.length c) l) (hl : l.length ≤ 1000000) :
    Calls Tryd.prog 37 #[.bool false, .slice a l.length c] w fun e w' => (if fin = true then GivesRef7 w false [] (innerG l).1.1 (innerG l).1.2 true e w' else GivesRef7 w false [] [] [] false e w') ∧ Below w.heap.size w w' := by
  have HB := Lib.hid hb
  have HFIN := Lib.hid hfin
  obtain ⟨many, s0, hm⟩ : ∃ n s, numR l 2 rd0 = (n, s) := ⟨_, _, rfl⟩
  obtain ⟨k0, s1, hf1⟩ : ∃ n s, numR l 4 s0 = (n, s) := ⟨_, _, rfl⟩
  obtain ⟨m0, hm0⟩ : ∃ m, (if s0.bad = true then 0 else many) = m := ⟨_, rfl⟩
  obtain ⟨mk, hmk⟩ : ∃ m, (if s1.bad = true then 0 else k0) = m := ⟨_, rfl⟩
  have hm6 : many < 65536 := by have := numR_lt l 2 rd0; rw [hm] at this; exact this
  have hp0 : s0.pos = 2 := by have := numR_pos l 2 rd0; rw [hm] at this; exact this
  have hp1 : s1.pos = 6 := by have := numR_pos l 4 s0; rw [hf1, hp0] at this; exact this
  have hge0 : s1.bad = false → s1.pos ≤ l.length := fun h => by
    have := numR_good (l := l) (x := 4) (s := s0) (by rw [hf1]; exact h)
    rw [hp1]; have := this.2.1; omega
  have hG : innerG l = innerR l (k0 : Int) s1 (many - 1) := by unfold innerG firstR manyR; rw [hm]; simp only; rw [hf1]
  have hmm := (numR_many (l := l) hm0).1
  have HMG := Lib.hid (numR_many (l := l) hm0).2
  have HS10 := Lib.hid (show s1.bad = false → s0.bad = false from fun h => (numR_good (l := l) (x := 4) (s := s0) (by rw [hf1]; exact h)).1)
  have HMK := Lib.hid (show s1.bad = false → mk = k0 from fun h => by rw [← hmk, h]; rfl)
  have HM := Lib.hid hm
  have HM0 := Lib.hid hm0
  have HF1 := Lib.hid hf1
  have HMK1 := Lib.hid hmk
  have HG := Lib.hid hG
  have HGE := Lib.hid hge0
  obtain ⟨P0, hP0⟩ : ∃ P, posD s0 = P := ⟨_, rfl⟩
  obtain ⟨P1, hP1⟩ : ∃ P, posD s1 = P := ⟨_, rfl⟩
  have HP0 := Lib.hid hP0
  have HP1 := Lib.hid hP1
  clear hb hfin hm hm0 hG hge0 hP0 hP1 hf1 hmk
  go_enter Tryd.func37, Tryd.ntmps37
  go_upto_region 2 with fail
  refine wp_name fun W hW => ?_
  have HR := Lib.hid (show BoxAt W w.heap.size [.bool false, .slice none 0 0, .slice none 0 0, .slice none 0 0] by rw [hW]; exact (BoxAt.new w [_, _, _, _] _).alloc _)
  have HN := Lib.hid (show BoxAt W (w.heap.size + 1) [.bool false, .slice none 0 0, .slice none 0 0, .slice none 0 0] by rw [hW]; exact BoxAt.newAt _ _ (by simp) [_, _, _, _] _)
  have HB0 := Lib.hid (show Below w.heap.size w W by rw [hW]; go_grown)
  clear hW
  obtain ⟨n0, n1, n2, n3⟩ := HN.out.four
  have f3 := HN.out.free 3 _ rfl
  have hsz := HN.out.lt
  have hne1 : ¬ w.heap.size + 1 = W.heap.size := Nat.ne_of_lt hsz
  have hne2 : ¬ W.heap.size = w.heap.size + 1 := Nat.ne_of_gt hsz
  go_upto_region 13 with (first
    | (go_at_call 75; (have := S1.out); (refine (refTake_is _ l 4 s0 s1 k0 mk HF1.out HMK1.out P0 P1 _ HP0.out HP1.out rfl _ (HB.out.below HB0.out) (by decide) (by decide) (by omega)).mono ?_); (rintro e w1 ⟨rfl, rfl⟩))
    | (go_at_call 75; (refine (refTake_is _ l 2 rd0 s0 many m0 HM.out HM0.out 0 P0 _ rfl HP0.out rfl _ (HB.out.below HB0.out) (by decide) (by decide) (by decide)).mono ?_); (rintro e w1 ⟨rfl, rfl⟩); (have S1 := Lib.hid True.intro)))
  refine wp_name fun V hV => ?_
  have HL0 := Lib.hid (show GetRI w [] [(mk : Int)] none 0 (some ⟨W.heap.size, 0, none⟩) 1 V by
    rw [hV]
    have hn := HN.out.put 3 (.slice (some ⟨W.heap.size, 0, none⟩) 1 1)
    have hbs := HB0.out.setCell (p := ⟨w.heap.size + 1, 3, none⟩) (by simp) (.slice (some ⟨W.heap.size, 0, none⟩) 1 1)
    exact ⟨((HR.out.set (by omega) _ _).alloc _), BoxAt.alloc (by simpa [List.set] using hn) _, OwnR.nil _ _ _, OwnI.lit _ (w.heap.size + 2) W.heap.size (by simp) (mk : Int) hsz, hbs.alloc hbs.size _⟩)
  obtain ⟨A3, hA3⟩ : ∃ A : Option Addr, some (⟨W.heap.size, 0, none⟩ : Addr) = A := ⟨_, rfl⟩
  rw [hA3] at HL0
  clear hV hA3 n0 n1 n2 n3 f3 hne1 hne2 hsz
  go_wp2_with fail
  go_loopw [8, 14] (fun atv i wr => ∃ k ks ki ks' ki' s P a2 c2 a3 c3, k ≤ m0 - 1 ∧ i = .int .i64 ((k + 1 : Nat) : Int) ∧ atv = .int .i64 P ∧ posD s = P ∧ innerR l (k0 : Int) s1 k = ((ks, ki), s) ∧ (s.bad = false → ks' = ks ∧ ki' = ki ∧ s.pos ≤ l.length) ∧ ks'.length ≤ k ∧ ki'.length ≤ k + 1 ∧ GetRI w ks' ki' a2 c2 a3 c3 wr) (fun _ i _ => m0 - (intOf i).toNat)
  case atStart => exact ⟨0, [], [(k0 : Int)], [], [(mk : Int)], s1, P1, none, 0, A3, 1, by omega, rfl, rfl, HP1.out, rfl, fun h => ⟨rfl, by rw [HMK.out h], HGE.out h⟩, by simp, by simp, HL0.out⟩
  case round =>
    obtain ⟨k, ks, ki, ks', ki', s, P, a2, c2, a3, c3, hk, rfl, rfl, hP, hls, hsp, hek, hek2, hgl⟩ := hrel
    have hel2 : ks'.length ≤ 1000000 := by omega
    have hel3 : ki'.length ≤ 1000000 := by omega
    have HLS := Lib.hid hls
    have HGL := Lib.hid hgl
    have HPP := Lib.hid hP
    obtain ⟨n0, n1, n2, n3⟩ := hgl.2.1.four
    clear hls hgl
    cases hbd : s.bad with
    | true =>
      have hf : fin = false := by rw [← HFIN.out]; unfold innerOk; rw [HG.out, innerR_bad HLS.out hbd (show k ≤ many - 1 by omega)]; simp [hbd]
      have hPe : P = -1 := by rw [← hP, posD_bad hbd]
      subst hf hPe
      have hz := zero_box HGL.out.1 (.bool false) (.slice none 0 0) (.slice none 0 0) (.slice none 0 0)
      have HZ := Lib.hid hz
      obtain ⟨z0, z1, z2, z3⟩ := HGL.out.1.four
      have f0 := HGL.out.1.free 0 _ rfl
      have f1 := HGL.out.1.free 1 _ rfl
      have f2 := HGL.out.1.free 2 _ rfl
      have f3 := HGL.out.1.free 3 _ rfl
      clear hP hz HPP
      rcases Nat.lt_or_ge (k + 1) m0 with hlt | hge
      · have hlt1 : (k : Int) + 1 < (m0 : Int) := by omega
        go_wp2_with fail
        obtain ⟨k0', k1, k2, k3⟩ := HZ.out.four
        refine bodyPost_ret (v := .tuple #[.agg #[.bool false, .slice none 0 0, .slice none 0 0, .slice none 0 0], .bool false]) (by simp [results, Tryd.results37, go_sem, k0', k1, k2, k3]) rfl ?_
        refine ⟨?_, (((HGL.out.2.2.2.2.setCell (Nat.le_refl _) _).setCell (Nat.le_refl _) _).setCell (Nat.le_refl _) _).setCell (Nat.le_refl _) _⟩
        try rw [if_neg (by decide)]
        exact ⟨none, none, none, 0, 0, 0, rfl, OwnR.nil _ _ _, OwnR.nil _ _ _, OwnI.nil _ _⟩
      · have hge1 : (m0 : Int) ≤ (k : Int) + 1 := by omega
        go_wp2_with fail
        obtain ⟨k0', k1, k2, k3⟩ := HZ.out.four
        refine bodyPost_ret (v := .tuple #[.agg #[.bool false, .slice none 0 0, .slice none 0 0, .slice none 0 0], .bool false]) (by simp [results, Tryd.results37, go_sem, k0', k1, k2, k3]) rfl ?_
        refine ⟨?_, (((HGL.out.2.2.2.2.setCell (Nat.le_refl _) _).setCell (Nat.le_refl _) _).setCell (Nat.le_refl _) _).setCell (Nat.le_refl _) _⟩
        try rw [if_neg (by decide)]
        exact ⟨none, none, none, 0, 0, 0, rfl, OwnR.nil _ _ _, OwnR.nil _ _ _, OwnI.nil _ _⟩
    | false =>
      obtain ⟨hes, hes2, hsl⟩ := hsp hbd
      subst hes hes2
      have hPe : P = (s.pos : Int) := by rw [← hP, posD_good hbd]
      subst hPe
      clear hP hsp
      by_cases hlt : k + 1 < m0
      · have hlt1 : (k : Int) + 1 < (m0 : Int) := by omega
        have hpi : (0 : Int) ≤ (s.pos : Int) := by omega
        obtain ⟨t, s2, h1R⟩ : ∃ E s', textR l s = (E, s') := ⟨_, _, rfl⟩
        obtain ⟨kd, s3, h2R⟩ : ∃ E s', numR l 4 s2 = (E, s') := ⟨_, _, rfl⟩
        obtain ⟨P2, hP2⟩ : ∃ P, posD s2 = P := ⟨_, rfl⟩
        obtain ⟨P3, hP3⟩ : ∃ P, posD s3 = P := ⟨_, rfl⟩
        obtain ⟨md, hmd⟩ : ∃ m, (if s3.bad = true then 0 else kd) = m := ⟨_, rfl⟩
        have p1 : s2.pos ≤ s.pos + 256 := by have := textR_pos l s; rw [h1R] at this; exact this
        have HST := Lib.hid (innerR_at HLS.out hbd h1R h2R)
        have HSP := Lib.hid (show s3.bad = false → s3.pos ≤ l.length from fun h => by have := kidR_end (l := l) (s := s) (by unfold kidR; rw [h1R]; simp only; rw [h2R]; exact h); unfold kidR at this; rw [h1R] at this; simp only at this; rw [h2R] at this; exact this)
        have HMD2 := Lib.hid (show s3.bad = false → md = kd from fun h => by rw [← hmd, h]; rfl)
        have H1R := Lib.hid h1R
        have H2R := Lib.hid h2R
        have HP2 := Lib.hid hP2
        have HP3 := Lib.hid hP3
        have HMD := Lib.hid hmd
        clear h1R h2R hP2 hP3 hmd
        go_upto_region 18 with (first
          | (go_at_call 77; (refine (refWord_is a c l s s2 t H1R.out _ P2 HPP.out HP2.out _ (HB.out.below HGL.out.2.2.2.2) (by omega) (by omega)).mono ?_); (rintro e w1 ⟨rfl, rfl⟩))
          | (go_at_call 75; (refine (refTake_is _ l 4 s2 s3 kd md H2R.out HMD.out P2 P3 _ HP2.out HP3.out rfl _ (HB.out.below HGL.out.2.2.2.2) (by decide) (by decide) (by omega)).mono ?_); (rintro e w1 ⟨rfl, rfl⟩)))
        go_upto_region 19 with (at_builtin; (refine wpList_append_row eStr eStr_ok rfl (.tmp 79) (.tmp 81) rfl (w.heap.size + 2) _ ks' rfl (HGL.out.2.2.1.alloc _) (.slice (some ⟨wr.heap.size, 0, none⟩) 1 1) [t] rfl (RowAt.one (E := eStr) wr t #[.string t] 9 rfl wr.heap.size rfl) (by simp; omega) (by simp; omega) (by have := HGL.out.size; simp; omega) ?_))
        intro v4 w4 hown4 hgrow4 _
        obtain ⟨a4, c4, hv4, -, -⟩ := hown4.slice
        subst hv4
        have HL1 := Lib.hid ((HGL.out.below ((Below.refl _ _).alloc (Nat.le_refl _) (.cells #[.string t] 9))).addKey hown4 hgrow4)
        have hx4 := (HGL.out.2.1.alloc (.cells #[.string t] 9)).grownR hgrow4 (fun e => by have := (HGL.out.2.2.1.lt _ e).1; omega)
        have y2 := hx4.at 2 _ rfl
        have yf2 := hx4.free 2 _ rfl
        clear hown4 hgrow4 hx4 n0 n1 n2 n3
        go_upto_region 19 with fail
        refine wp_name fun V hV => ?_
        have HLV := Lib.hid (show GetRI w (ks' ++ [t]) ki' a4 c4 a3 c3 V by
          rw [hV]
          have h := HL1.out
          rw [show Value.slice a4 (ks' ++ [t]).length c4 = Value.slice a4 (ks'.length + 1) c4 by simp] at h
          exact h)
        clear hV HL1 y2 yf2
        obtain ⟨n0, n1, n2, n3⟩ := HLV.out.2.1.four
        go_upto_region 20 with (at_builtin; (refine wpList_append_row eInt eInt_ok rfl (.tmp 85) (.tmp 87) rfl (w.heap.size + 2) _ ki' rfl (HLV.out.2.2.2.1.alloc _).toR (.slice (some ⟨V.heap.size, 0, none⟩) 1 1) [(md : Int)] rfl (RowAt.one (E := eInt) V (md : Int) #[.int .i64 (md : Int)] 3 rfl V.heap.size rfl) (by simp; omega) (by simp; omega) (by have := HLV.out.size; simp; omega) ?_))
        intro v6 w6 hown6 hgrow6 _
        obtain ⟨a6, c6, hv6, -, -⟩ := hown6.slice
        subst hv6
        have HL2 := Lib.hid ((HLV.out.below ((Below.refl _ _).alloc (Nat.le_refl _) (.cells #[.int .i64 (md : Int)] 3))).addKid (OwnI.ofR hown6) hgrow6)
        have hx6 := (HLV.out.2.1.alloc (.cells #[.int .i64 (md : Int)] 3)).grownR hgrow6 (fun e => by have := (HLV.out.2.2.2.1.lt _ e).1; omega)
        have y3 := hx6.at 3 _ rfl
        have yf3 := hx6.free 3 _ rfl
        clear hown6 hgrow6 hx6 n0 n1 n2 n3
        go_upto_region 20 with fail
        refine wp_name fun U hU => ?_
        have HLU := Lib.hid (show GetRI w (ks' ++ [t]) (ki' ++ [(md : Int)]) a4 c4 a6 c6 U by
          rw [hU]
          have h := HL2.out
          rw [show Value.slice a6 (ki' ++ [(md : Int)]).length c6 = Value.slice a6 (ki'.length + 1) c6 by simp] at h
          exact h)
        clear hU HL2 y3 yf3
        go_wp2_with fail
        go_roundw
        case rel => exact ⟨k + 1, ks' ++ [t], ki' ++ [(kd : Int)], ks' ++ [t], ki' ++ [(md : Int)], s3, P3, a4, c4, a6, c6, by omega, by go_num, rfl, HP3.out, HST.out, fun h => ⟨rfl, by rw [HMD2.out h], HSP.out h⟩, by simp; omega, by simp; omega, HLU.out⟩
        case measure => simp [intOf]; omega
      · have hge1 : (m0 : Int) ≤ (k : Int) + 1 := by omega
        have hpi : (0 : Int) ≤ (s.pos : Int) := by omega
        have hs1 : s1.bad = false := by
          cases h0 : s1.bad with
          | false => rfl
          | true =>
            have h2 := innerR_stays (l := l) (c0 := (k0 : Int)) (s := s1) (k := 0) h0 k (Nat.zero_le _)
            rw [HLS.out] at h2
            have := congrArg (fun x => x.2.bad) h2
            simp only [innerR, h0, hbd] at this
            cases this
        have hkm : k = many - 1 := by have := HMG.out (HS10.out hs1); omega
        have HLG := Lib.hid (show innerG l = ((ks', ki'), s) by rw [HG.out, ← hkm]; exact HLS.out)
        have hlk : innerOk l = (nodeB false [] ks' ki' && (nodeL false [] ks' ki' == l)) := by unfold innerOk; rw [HLG.out]; simp [hbd]
        have HRR : ∀ (B : Bool), nodeB false [] ks' ki' = B → ∀ wq, Below wr.heap.size wr wq → Calls Tryd.prog 24 #[.agg #[.bool false, .slice none 0 0, .slice a2 ks'.length c2, .slice a3 ki'.length c3]] wq fun e w' => e = .returned (.bool B) ∧ Below wq.heap.size wq w' := fun B hB wq hq => refRight_is false [] ks' ki' B hB none a2 a3 0 c2 c3 wq (RowAt.nil _ _) ((HGL.out.2.2.1.below hq (Nat.le_refl _)).at eStr_ok) (HGL.out.2.2.2.1.below hq (Nat.le_refl _)).ints (by simp) hel2 hel3
        have HRX := Lib.hid HRR
        clear HRR hs1 hkm
        cases hn : nodeB false [] ks' ki' with
        | false =>
          have HNB := Lib.hid hn
          have hf : fin = false := by rw [← HFIN.out, hlk, hn]; rfl
          subst hf
          clear hlk hn
          go_wp2_with (go_at_call 24; (refine (HRX.out false HNB.out _ (Below.refl _ _)).mono ?_); (rintro e w2 ⟨rfl, hb2⟩); (have HL2 := Lib.hid (HGL.out.below hb2)); (obtain ⟨z0, z1, z2, z3⟩ := HL2.out.1.four); (have f0 := HL2.out.1.free 0 _ rfl); (have f1 := HL2.out.1.free 1 _ rfl); (have f2 := HL2.out.1.free 2 _ rfl); (have f3 := HL2.out.1.free 3 _ rfl); (clear hb2))
          have HZ := Lib.hid (zero_box HL2.out.1 (.bool false) (.slice none 0 0) (.slice none 0 0) (.slice none 0 0))
          obtain ⟨k0', k1, k2, k3⟩ := HZ.out.four
          refine bodyPost_ret (v := .tuple #[.agg #[.bool false, .slice none 0 0, .slice none 0 0, .slice none 0 0], .bool false]) (by simp [results, Tryd.results37, go_sem, k0', k1, k2, k3]) rfl ?_
          refine ⟨?_, (((HL2.out.2.2.2.2.setCell (Nat.le_refl _) _).setCell (Nat.le_refl _) _).setCell (Nat.le_refl _) _).setCell (Nat.le_refl _) _⟩
          try rw [if_neg (by decide)]
          exact ⟨none, none, none, 0, 0, 0, rfl, OwnR.nil _ _ _, OwnR.nil _ _ _, OwnI.nil _ _⟩
        | true =>
          have HNB := Lib.hid hn
          obtain ⟨L, hL⟩ : ∃ L, nodeL false [] ks' ki' = L := ⟨_, rfl⟩
          have HLL := Lib.hid hL
          have HFE := Lib.hid (show (L == l) = fin by rw [← HFIN.out, hlk, hn, hL]; rfl)
          clear hlk hn hL
          have HBY : ∀ wq, Below wr.heap.size wr wq → Calls Tryd.prog 27 #[.agg #[.bool false, .slice none 0 0, .slice a2 ks'.length c2, .slice a3 ki'.length c3]] wq fun e w' => (∃ a c, e = .returned (.slice a L.length c) ∧ Own w' wq.heap.size (.slice a L.length c) L) ∧ Below wq.heap.size wq w' := fun wq hq => refBytes_is false [] ks' ki' HNB.out L HLL.out none a2 a3 0 c2 c3 wq (RowAt.nil _ _) ((HGL.out.2.2.1.below hq (Nat.le_refl _)).at eStr_ok) (HGL.out.2.2.2.1.below hq (Nat.le_refl _)).ints
          have HBX := Lib.hid HBY
          clear HBY
          cases fin with
          | false =>
            go_wp2_with (first
              | (go_at_call 19; (refine (sameB7_is _ _ L l _ HFE.out _ HY3.out (HB.out.below HL3.out.2.2.2.2)).mono ?_); (rintro e w4 ⟨rfl, hb4⟩); (have HL4 := Lib.hid (HL3.out.below hb4)); (clear z0 z1 z2 z3 f0 f1 f2 f3 n0 n1 n2 n3); (obtain ⟨n0, n1, n2, n3⟩ := HL4.out.2.1.four); (obtain ⟨z0, z1, z2, z3⟩ := HL4.out.1.four); (have f0 := HL4.out.1.free 0 _ rfl); (have f1 := HL4.out.1.free 1 _ rfl); (have f2 := HL4.out.1.free 2 _ rfl); (have f3 := HL4.out.1.free 3 _ rfl); (clear hb4))
              | (go_at_call 27; (refine (HBX.out _ HQ2.out).mono ?_); (rintro e w3 ⟨⟨ay, cy, rfl, ho3⟩, hb3⟩); (have HL3 := Lib.hid (HL2.out.below hb3)); (have HY3 := Lib.hid ho3.bytes); (clear n0 n1 n2 n3); (obtain ⟨n0, n1, n2, n3⟩ := HL3.out.2.1.four); (obtain ⟨z0, z1, z2, z3⟩ := HL3.out.1.four); (have f0 := HL3.out.1.free 0 _ rfl); (have f1 := HL3.out.1.free 1 _ rfl); (have f2 := HL3.out.1.free 2 _ rfl); (have f3 := HL3.out.1.free 3 _ rfl); (clear hb3 ho3))
              | (go_at_call 24; (refine (HRX.out true HNB.out _ (Below.refl _ _)).mono ?_); (rintro e w2 ⟨rfl, hb2⟩); (have HL2 := Lib.hid (HGL.out.below hb2)); (have HQ2 := Lib.hid hb2); (clear n0 n1 n2 n3); (obtain ⟨n0, n1, n2, n3⟩ := HL2.out.2.1.four); (clear hb2)))
            have HZ := Lib.hid (zero_box HL4.out.1 (.bool false) (.slice none 0 0) (.slice none 0 0) (.slice none 0 0))
            obtain ⟨k0', k1, k2, k3⟩ := HZ.out.four
            refine bodyPost_ret (v := .tuple #[.agg #[.bool false, .slice none 0 0, .slice none 0 0, .slice none 0 0], .bool false]) (by simp [results, Tryd.results37, go_sem, k0', k1, k2, k3]) rfl ?_
            refine ⟨?_, (((HL4.out.2.2.2.2.setCell (Nat.le_refl _) _).setCell (Nat.le_refl _) _).setCell (Nat.le_refl _) _).setCell (Nat.le_refl _) _⟩
            try rw [if_neg (by decide)]
            exact ⟨none, none, none, 0, 0, 0, rfl, OwnR.nil _ _ _, OwnR.nil _ _ _, OwnI.nil _ _⟩
          | true =>
            go_wp2_with (first
              | (go_at_call 19; (refine (sameB7_is _ _ L l _ HFE.out _ HY3.out (HB.out.below HL3.out.2.2.2.2)).mono ?_); (rintro e w4 ⟨rfl, hb4⟩); (have HL4 := Lib.hid (HL3.out.below hb4)); (clear z0 z1 z2 z3 f0 f1 f2 f3 n0 n1 n2 n3); (obtain ⟨n0, n1, n2, n3⟩ := HL4.out.2.1.four); (obtain ⟨z0, z1, z2, z3⟩ := HL4.out.1.four); (have f0 := HL4.out.1.free 0 _ rfl); (have f1 := HL4.out.1.free 1 _ rfl); (have f2 := HL4.out.1.free 2 _ rfl); (have f3 := HL4.out.1.free 3 _ rfl); (clear hb4))
              | (go_at_call 27; (refine (HBX.out _ HQ2.out).mono ?_); (rintro e w3 ⟨⟨ay, cy, rfl, ho3⟩, hb3⟩); (have HL3 := Lib.hid (HL2.out.below hb3)); (have HY3 := Lib.hid ho3.bytes); (clear n0 n1 n2 n3); (obtain ⟨n0, n1, n2, n3⟩ := HL3.out.2.1.four); (obtain ⟨z0, z1, z2, z3⟩ := HL3.out.1.four); (have f0 := HL3.out.1.free 0 _ rfl); (have f1 := HL3.out.1.free 1 _ rfl); (have f2 := HL3.out.1.free 2 _ rfl); (have f3 := HL3.out.1.free 3 _ rfl); (clear hb3 ho3))
              | (go_at_call 24; (refine (HRX.out true HNB.out _ (Below.refl _ _)).mono ?_); (rintro e w2 ⟨rfl, hb2⟩); (have HL2 := Lib.hid (HGL.out.below hb2)); (have HQ2 := Lib.hid hb2); (clear n0 n1 n2 n3); (obtain ⟨n0, n1, n2, n3⟩ := HL2.out.2.1.four); (clear hb2)))
            have hz := zero_box HL4.out.1 (.bool false) (.slice none 0 0) (.slice a2 ks'.length c2) (.slice a3 ki'.length c3)
            obtain ⟨k0', k1, k2, k3⟩ := hz.four
            refine bodyPost_ret (v := .tuple #[.agg #[.bool false, .slice none 0 0, .slice a2 ks'.length c2, .slice a3 ki'.length c3], .bool true]) (by simp [results, Tryd.results37, go_sem, k0', k1, k2, k3]) rfl ?_
            refine ⟨?_, (((HL4.out.2.2.2.2.setCell (Nat.le_refl _) _).setCell (Nat.le_refl _) _).setCell (Nat.le_refl _) _).setCell (Nat.le_refl _) _⟩
            try rw [if_pos rfl]
            rw [HLG.out]
            have hq := HL4.out.2.2.1
            have hq2 := HL4.out.2.2.2.1
            exact ⟨none, a2, a3, 0, c2, c3, rfl, OwnR.nil _ _ _, ((((hq.keep (grownBy_set (World.grownBy.refl _ (some w.heap.size)) 0 _) (by omega)).keep (grownBy_set (World.grownBy.refl _ (some w.heap.size)) 1 _) (by omega)).keep (grownBy_set (World.grownBy.refl _ (some w.heap.size)) 2 _) (by omega)).keep (grownBy_set (World.grownBy.refl _ (some w.heap.size)) 3 _) (by omega)).mono (by omega), ((((hq2.keep (grownBy_set (World.grownBy.refl _ (some w.heap.size)) 0 _) (by omega)).keep (grownBy_set (World.grownBy.refl _ (some w.heap.size)) 1 _) (by omega)).keep (grownBy_set (World.grownBy.refl _ (some w.heap.size)) 2 _) (by omega)).keep (grownBy_set (World.grownBy.refl _ (some w.heap.size)) 3 _) (by omega)).mono (by omega)⟩
end Go.Proofs.YtlobelfnjabajaaDoor
