/- the statement BlockCrashes: its walk (printed by wip/tools/gen_laws04.py) -/
import Derived.Test.YtflbioiildndoaaDoorBlkPlay
import Derived.Test.YtflbioiildndoaaDoorBlkSame
import Derived.Test.YtflbioiildndoaaDoorBlkLawMath
namespace Go.Proofs.YtflbioiildndoaaDoor
open Go.RowKit
set_option linter.unusedVariables false
set_option linter.unusedSimpArgs false

theorem DiskR.noWaiting {G : Nat → Prop} {w : World} {d : Bk.Disk} {lv wv kv : Value} {xs : List Sl3} {ys : List (Int × Sl3)} (h : DiskR G w d lv wv kv xs ys) : DiskR G w { d with waiting := [] } lv (.slice none 0 0) kv xs [] where
  last := h.last
  wait := RowAt.nil _ _
  keep := h.keep
  lastG := h.lastG
  waitG := fun k hk => by cases hk
  keepG := h.keepG
  xlen := h.xlen
  xeach := h.xeach
  ylen := rfl
  yeach := fun i y z hy => by cases hy
/-- a crash that keeps all is as a flush; one that keeps none as if nothing had waited -/
theorem crashes_math (D : Bk.Disk) (m : Nat) (hm : D.waiting.length = m) : ∃ X, Bk.flush (Bk.on D) = (X, 0) ∧ Obs (Bk.on (Bk.crash D (List.replicate m true) (-1) 0)) { X with count := D.count } ∧ Obs (Bk.on (Bk.crash D [] (-1) 0)) { Bk.on D with waiting := [] } := by
  subst hm
  refine ⟨Bk.all (Bk.ticked (Bk.on D)), ?_, ⟨rfl, ?_, rfl, rfl, rfl⟩, ⟨rfl, ?_, rfl, rfl, rfl⟩⟩
  · unfold Bk.flush
    rw [if_neg (by simp [Bk.on]), if_neg (by unfold Bk.blows; simp [Bk.on])]
  · exact Bk.crashK_all D.waiting D.lasting 0 _ (Nat.le_refl _)
  · exact Bk.crashK_none D.waiting D.lasting 0 _
set_option maxRecDepth 100000 in
set_option maxHeartbeats 1000000 in
theorem blockCrashes_walk (lv : Value) (acts : List BAct) (w : World) (A : Nat → Addr) (hs : Sents w A) (ha : Acts w.heap.size w lv acts) :
    Calls Tryd.prog 5 #[lv] w fun e w' => e = .returned (.bool true) ∧ Below w.heap.size w w' := by
  obtain ⟨aa, ac, rfl, hac, hacm, -⟩ := id ha.row
  unfold maxLen at hacm
  have HA := Lib.hid ha
  have HS := Lib.hid hs
  clear ha hs
  obtain ⟨D, hD⟩ : ∃ D, playK acts (min acts.length 40) = D := ⟨_, rfl⟩
  have hDo : Bk.Ok 40 D := hD ▸ (playK_ok acts _).mono (Nat.min_le_right _ _)
  have hbl : D.blocks = 8 := hD ▸ playK_blocks acts _
  have hsz : D.size = 256 := hD ▸ playK_size acts _
  obtain ⟨m, hmm⟩ : ∃ m, D.waiting.length = m := ⟨_, rfl⟩
  obtain ⟨X, hX, hoa, hob⟩ := crashes_math D m hmm
  obtain ⟨CA, hCA⟩ : ∃ E, Bk.crash D (List.replicate m true) (-1) 0 = E := ⟨_, rfl⟩
  obtain ⟨CB, hCB⟩ : ∃ E, Bk.crash D [] (-1) 0 = E := ⟨_, rfl⟩
  have hCAo : Bk.Ok 0 CA := hCA ▸ hDo.crash _ _ _
  have hCBo : Bk.Ok 0 CB := hCB ▸ hDo.crash _ _ _
  obtain ⟨OA, hOA⟩ : ∃ E, Bk.on CA = E := ⟨_, rfl⟩
  obtain ⟨OB, hOB⟩ : ∃ E, Bk.on CB = E := ⟨_, rfl⟩
  have hOAo : Bk.Ok 0 OA := hOA ▸ hCAo.on
  have hOBo : Bk.Ok 0 OB := hOB ▸ hCBo.on
  rw [hCA, hOA] at hoa
  rw [hCB, hOB] at hob
  obtain ⟨D1, hD1⟩ : ∃ E, Bk.on D = E := ⟨_, rfl⟩
  rw [hD1] at hX hob
  have hcn : D1.count = D.count := hD1 ▸ rfl
  have hD1o : Bk.Ok 40 D1 := hD1 ▸ hDo.on
  have hXo : Bk.Ok 40 X := by have := hD1o.flush; rw [hX] at this; exact this
  have HD0 := Lib.hid hD
  have HDO := Lib.hid hDo
  have HON := Lib.hid hD1
  have HD1O := Lib.hid hD1o
  have HXX := Lib.hid hX
  have HXO := Lib.hid hXo
  have HCA := Lib.hid hCA
  have HCB := Lib.hid hCB
  have HOA := Lib.hid hOA
  have HOB := Lib.hid hOB
  have HOAO := Lib.hid hOAo
  have HOBO := Lib.hid hOBo
  have HCAO := Lib.hid hCAo
  have HCBO := Lib.hid hCBo
  have HOBA := Lib.hid hoa
  have HOBB := Lib.hid hob
  have HCN := Lib.hid hcn
  have HMM := Lib.hid hmm
  have HBL := Lib.hid hbl
  have HSZ := Lib.hid hsz
  clear hD hDo hD1 hD1o hX hXo hCA hCB hOA hOB hOAo hOBo hCAo hCBo hoa hob hcn hmm hbl hsz

  go_enter Tryd.func5, Tryd.ntmps5
  go_upto_region 1 with fail
  refine wp_name fun W hW => ?_
  have HB := Lib.hid (show Below w.heap.size w W by rw [hW]; exact Below.refl _ _)
  clear hW
  go_upto_region 2 with (go_at_call 21; (refine (played04_to w.heap.size _ acts D HD0.out _ HB.out.size (HA.out.below HB.out) A (HS.out.below HB.out)).mono ?_); (rintro e w11 ⟨⟨p1, v1, F1, G1, rfl, hd, hr, hF, hG, hGF, hFB⟩, hb⟩); (obtain ⟨lv2, wv2, kv2, xs1, ys1, rfl, h2⟩ := hr); (obtain ⟨la1, lc1, wa1, wc1, ka1, kc1, rfl, rfl, rfl⟩ := h2.shape); (have H1 := Lib.hid h2); (have HD1 := Lib.hid hd); (have HF1 := Lib.hid hF); (have HG1 := Lib.hid hG); (have HGF1 := Lib.hid hGF); (have HFB1 := Lib.hid hFB); (have HB1 := Lib.hid (below_step HB.out hb)); (have HBa1 := Lib.hid hb); (clear h2 hd hF hG hGF hFB hb); (unfold refD))
  refine wp_name fun V hV => ?_
  obtain ⟨nb1, hnb⟩ : ∃ nb, w11.heap.size = nb := ⟨_, rfl⟩
  have hvb : BoxAt V nb1 [.int .i64 (D.blocks : Int), .int .i64 (D.size : Int), .slice la1 xs1.length lc1, .slice wa1 ys1.length wc1, .bool D.lit, .int .i64 D.after, .int .i64 D.torn, .int .i64 D.cut, .slice ka1 D.keep.length kc1, .bool D.off, .int .i64 D.count] ∧ Below w11.heap.size w11 V := by
    rw [hV]
    exact ⟨BoxAt.newAt _ _ hnb [_, _, _, _, _, _, _, _, _, _, _] _, (Below.refl _ _).alloc (Nat.le_refl _) _⟩
  have HX1 := Lib.hid hvb.1
  have HBX1 := Lib.hid hvb.2
  have HBV1 := Lib.hid (below_step HB1.out hvb.2)
  have HDV1 := Lib.hid (HD1.out.below HF1.out hvb.2)
  have HFV1 := Lib.hid (HF1.out.more hvb.2.size)
  have HV1 := Lib.hid (H1.out.below HG1.out hvb.2)
  have HGV1 := Lib.hid (HG1.out.more hvb.2.size)
  have HFBw1 := Lib.hid (show ∀ k, F1 k → w.heap.size ≤ k from fun k hk => by have := HFB1.out k hk; have := HB.out.size; omega)
  have hnF : ¬ F1 nb1 := fun h => by have := HF1.out _ h; omega
  have hnG : ¬ G1 nb1 := fun h => by have := HG1.out _ h; omega
  have HNF1 := Lib.hid hnF
  have HNG1 := Lib.hid hnG
  have HNB1 := Lib.hid (show W.heap.size ≤ nb1 by rw [← hnb]; exact HBa1.out.size)
  rw [hnb]
  clear hV hvb hnF hnG
  clear hnb
  go_upto_region 3 with (go_at_call 21; (refine (played04_to w.heap.size _ acts D HD0.out _ HBV1.out.size (HA.out.below HBV1.out) A (HS.out.below HBV1.out)).mono ?_); (rintro e w12 ⟨⟨p2, v1, F2, G2, rfl, hd, hr, hF, hG, hGF, hFB⟩, hb⟩); (obtain ⟨lv2, wv2, kv2, xs2, ys2, rfl, h2⟩ := hr); (obtain ⟨la2, lc2, wa2, wc2, ka2, kc2, rfl, rfl, rfl⟩ := h2.shape); (have H2 := Lib.hid h2); (have HD2 := Lib.hid hd); (have HF2 := Lib.hid hF); (have HG2 := Lib.hid hG); (have HGF2 := Lib.hid hGF); (have HFB2 := Lib.hid hFB); (have HB2 := Lib.hid (below_step HBV1.out hb)); (have HBa2 := Lib.hid hb); (clear h2 hd hF hG hGF hFB hb); (unfold refD))
  refine wp_name fun V2 hV => ?_
  obtain ⟨nb2, hnb⟩ : ∃ nb, w12.heap.size = nb := ⟨_, rfl⟩
  have hvb : BoxAt V2 nb2 [.int .i64 (D.blocks : Int), .int .i64 (D.size : Int), .slice la2 xs2.length lc2, .slice wa2 ys2.length wc2, .bool D.lit, .int .i64 D.after, .int .i64 D.torn, .int .i64 D.cut, .slice ka2 D.keep.length kc2, .bool D.off, .int .i64 D.count] ∧ Below w12.heap.size w12 V2 := by
    rw [hV]
    exact ⟨BoxAt.newAt _ _ hnb [_, _, _, _, _, _, _, _, _, _, _] _, (Below.refl _ _).alloc (Nat.le_refl _) _⟩
  have HX2 := Lib.hid hvb.1
  have HBX2 := Lib.hid hvb.2
  have HBV2 := Lib.hid (below_step HB2.out hvb.2)
  have HDV2 := Lib.hid (HD2.out.below HF2.out hvb.2)
  have HFV2 := Lib.hid (HF2.out.more hvb.2.size)
  have HV2 := Lib.hid (H2.out.below HG2.out hvb.2)
  have HGV2 := Lib.hid (HG2.out.more hvb.2.size)
  have HFBw2 := Lib.hid (show ∀ k, F2 k → w.heap.size ≤ k from fun k hk => by have := HFB2.out k hk; have := HBV1.out.size; omega)
  have hnF : ¬ F2 nb2 := fun h => by have := HF2.out _ h; omega
  have hnG : ¬ G2 nb2 := fun h => by have := HG2.out _ h; omega
  have HNF2 := Lib.hid hnF
  have HNG2 := Lib.hid hnG
  have HNB2 := Lib.hid (show V.heap.size ≤ nb2 by rw [← hnb]; exact HBa2.out.size)
  rw [hnb]
  clear hV hvb hnF hnG
  clear hnb
  have hVV : Below V.heap.size V V2 := HBa2.out.trans (HBX2.out.mono HBa2.out.size)
  have HDa := Lib.hid (HDV1.out.below HFV1.out hVV)
  have HXa := Lib.hid (HX1.out.below hVV)
  have HRa := Lib.hid (HV1.out.below HGV1.out hVV)
  have HFa := Lib.hid (HFV1.out.more hVV.size)
  have HGa := Lib.hid (HGV1.out.more hVV.size)
  have hs0 : w.heap.size ≤ V.heap.size := HBV1.out.size
  have hs1 : V.heap.size ≤ V2.heap.size := hVV.size
  have hF1V : ∀ k, F1 k → k < V.heap.size := HFV1.out
  have hF2V : ∀ k, F2 k → V.heap.size ≤ k := HFB2.out
  have hG1V : ∀ k, G1 k → k < V.heap.size := HGV1.out
  have hnb1V : nb1 < V.heap.size := HX1.out.lt
  have hnb2V : V.heap.size ≤ nb2 := HNB2.out
  have hnb1w : w.heap.size ≤ nb1 := by have := HNB1.out; have := HB.out.size; omega
  have hwl : D.waiting.length = m := HMM.out
  have hyl : ys1.length = m := by rw [← hwl]; exact H1.out.ylen
  have HF1V := Lib.hid hF1V
  have HF2V := Lib.hid hF2V
  have HG1V := Lib.hid hG1V
  rw [hyl] at HXa HRa
  have HXa' := Lib.hid (show BoxAt V2 nb1 [.int .i64 (D.blocks : Int), .int .i64 (D.size : Int), .slice la1 xs1.length lc1, .slice wa1 m wc1, .bool D.lit, .int .i64 D.after, .int .i64 D.torn, .int .i64 D.cut, .slice ka1 D.keep.length kc1, .bool D.off, .int .i64 D.count] from HXa.out)
  have hm40 : m ≤ 40 := by rw [← hwl]; exact HDO.out.many
  clear hF1V hF2V hG1V hwl hyl hVV
  obtain ⟨x0, x1, x2, x3, x4, x5, x6, x7, x8, x9, x10⟩ := HXa'.out.eleven
  go_upto_region 6 with (at_make; (refine wpList_make_row eBool eBool_ok false rfl rfl _ _ rfl m _ _ rfl rfl rfl rfl (by simp; omega) (by omega) V2.heap.size rfl ?_); (intro w4 ho4 hg4); (have HO4 := Lib.hid ho4); (have HG4 := Lib.hid hg4); (clear ho4 hg4))
  go_wp2_with fail
  go_loopw [8] (fun i wr => ∃ k : Nat, k ≤ m ∧ i = .int .i64 (k : Int) ∧ OwnR eBool wr V2.heap.size (.slice (some ⟨V2.heap.size, 0, none⟩) m m) (List.replicate k true ++ List.replicate (m - k) false) ∧ Below V2.heap.size V2 wr) (fun i _ => m - (intOf i).toNat)
  case atStart => exact ⟨0, Nat.zero_le _, rfl, by simpa using HO4.out, (Below.refl _ _).grown HG4.out (Nat.le_refl _) (by intro k hk; cases hk)⟩
  case round =>
    obtain ⟨k, hk, rfl, ho, hb⟩ := hrel
    have HO := Lib.hid ho
    have HBR := Lib.hid hb
    clear ho hb
    by_cases hlt : k < m
    · have hlt1 : (k : Int) < (m : Int) := by omega
      have hk0 : (0 : Int) ≤ (k : Int) := by omega
      have hat : (List.replicate k true ++ List.replicate (m - k) false)[k]? = some false := by
        rw [List.getElem?_append_right (by simp), List.length_replicate, Nat.sub_self, List.getElem?_replicate, if_pos (by omega)]
      have hc := OwnR.cell eBool_ok HO.out hat (j := 0) (u := .bool false) rfl
      have hf := HO.out.free k
      simp only [Nat.mul_one, Nat.add_zero] at hc
      have hset := OwnR.set eBool_ok HO.out hat (j := 0) (y := true) (u := .bool true) (show 0 < 1 by decide) rfl
      simp only [Nat.mul_one, Nat.add_zero] at hset
      have hl : (List.replicate k true ++ List.replicate (m - k) false).set k true = List.replicate (k + 1) true ++ List.replicate (m - (k + 1)) false := by
        apply List.ext_getElem?
        intro j
        rw [List.getElem?_set]
        by_cases hj : k = j
        · subst hj
          rw [if_pos rfl, if_pos (by simp; omega), List.getElem?_append_left (by simp), List.getElem?_replicate, if_pos (by omega)]
        · rw [if_neg hj]
          by_cases hjk : j < k
          · rw [List.getElem?_append_left (by simp; omega), List.getElem?_append_left (by simp; omega), List.getElem?_replicate, List.getElem?_replicate, if_pos hjk, if_pos (by omega)]
          · rw [List.getElem?_append_right (by simp; omega), List.getElem?_append_right (by simp; omega), List.length_replicate, List.length_replicate, List.getElem?_replicate, List.getElem?_replicate]
            by_cases h2 : j < m
            · rw [if_pos (by omega), if_pos (by omega)]
            · rw [if_neg (by omega), if_neg (by omega)]
      rw [hl] at hset
      have HSET := Lib.hid hset
      have HBS := Lib.hid (HBR.out.setCell (p := ⟨V2.heap.size, k, none⟩) (Nat.le_refl _) (.bool true))
      clear hat hset hl
      go_wp2_with fail
      go_roundw
      case rel => exact ⟨k + 1, by omega, by go_num, HSET.out, HBS.out⟩
      case measure => simp [intOf]; omega
    · obtain rfl : k = m := by omega
      have hkp : RowAt eBool wr (.slice (some ⟨V2.heap.size, 0, none⟩) k k) (List.replicate k true) := by
        have := HO.out.at eBool_ok
        rw [Nat.sub_self] at this
        simpa using this
      have hkl : (List.replicate k true).length = k := List.length_replicate
      have HKP := Lib.hid hkp
      have hbr := HBR.out
      have hs4 : V2.heap.size ≤ wr.heap.size := hbr.size
      have HDr := Lib.hid (HDa.out.below HFa.out hbr)
      have HXr := Lib.hid (HXa'.out.below hbr)
      have HRr := Lib.hid (HRa.out.below HGa.out hbr)
      have HFr := Lib.hid (HFa.out.more hbr.size)
      have HGr := Lib.hid (HGa.out.more hbr.size)
      have HD2r := Lib.hid (HDV2.out.below HFV2.out hbr)
      have HF2r := Lib.hid (HFV2.out.more hbr.size)
      have HBr := Lib.hid (HBV2.out.trans (hbr.mono HBV2.out.size))
      clear hkp hbr hlt hk x0 x1 x2 x3 x4 x5 x6 x7 x8 x9 x10
      go_upto_region 12 with (first
        | (go_at_call 26; (refine (crash_to HD5b.out HDO.out HF5b.out _ [] (RowAt.nil _ _) (.inl rfl) (-1) 0 HCB.out A).mono ?_); (rintro e w6 h6); (obtain ⟨F6, rfl, hd6, hb6, hg6⟩ := h6.ok); (have HD6 := Lib.hid hd6); (have HB6 := Lib.hid hb6); (have HG6 := Lib.hid hg6); (clear h6 hd6 hb6 hg6))
        | (go_at_call 26; (refine (crash_to HDr.out HDO.out HFr.out _ (List.replicate k true) HKP.out (.inr fun q hq hf => by have hq' : V2.heap.size = q := Option.some.inj hq; have := HF1V.out _ hf; omega) (-1) 0 HCA.out A).mono ?_); (rintro e w5 h5); (obtain ⟨F5, rfl, hd5, hb5, hg5⟩ := h5.ok); (have HD5 := Lib.hid hd5); (have HB5 := Lib.hid hb5); (have HG5 := Lib.hid hg5); (have HD5b := Lib.hid (HD2r.out.on fun q hq => hb5.block q (HF2r.out q hq) (fun hf => by have := HF1V.out q hf; have := HF2V.out q hq; omega))); (have HF5b := Lib.hid (HF2r.out.more hb5.size)); (clear h5 hd5 hb5 hg5)))
      have hs5 : wr.heap.size ≤ w5.heap.size := HB5.out.size
      have hs6 : w5.heap.size ≤ w6.heap.size := HB6.out.size
      have hF5 : ∀ q, F5 q → (F1 q ∨ wr.heap.size ≤ q) ∧ q < w5.heap.size := fun q hq => HG5.out q hq
      have hF6 : ∀ q, F6 q → (F2 q ∨ w5.heap.size ≤ q) ∧ q < w6.heap.size := fun q hq => HG6.out q hq
      have hF2r : ∀ q, F2 q → V.heap.size ≤ q ∧ q < wr.heap.size := fun q hq => ⟨HF2V.out q hq, HF2r.out q hq⟩
      have h56 : ∀ q, F5 q → ¬ F6 q := fun q h5 h6 => by
        have a2 := (hF5 q h5).2
        rcases (hF6 q h6).1 with b1 | b1
        · have c1 := hF2r q b1
          rcases (hF5 q h5).1 with d1 | d1
          · have := HF1V.out q d1; omega
          · omega
        · omega
      have h52 : ∀ q, F5 q → ¬ F2 q := fun q h5 h2 => by
        have c1 := hF2r q h2
        rcases (hF5 q h5).1 with d1 | d1
        · have := HF1V.out q d1; omega
        · omega
      have HF5 := Lib.hid hF5
      have HF6 := Lib.hid hF6
      have H56 := Lib.hid h56
      have HD5c := Lib.hid (show DiskAt F5 w6 p1 CA from HD5.out.on fun q hq => HB6.out.block q (hF5 q hq).2 (h52 q hq))
      have HH5 := Lib.hid (show Held F5 w6 from fun q hq => by have := (hF5 q hq).2; omega)
      have HH6 := Lib.hid (show Held F6 w6 from fun q hq => (hF6 q hq).2)
      have hFU6 : Beside (fun q => F1 q ∨ F2 q ∨ wr.heap.size ≤ q) wr w6 := (HB5.out.mono (fun q hq => .inl hq)).same (HB6.out.mono (fun q hq => .inr (.inl hq)))
      have HFU6 := Lib.hid hFU6
      clear hF5 hF6 hF2r h56 h52 hFU6
      go_upto_region 13 with (go_at_call 22; (refine (on_to HD5c.out HOA.out).mono ?_); (rintro e w7 ⟨⟨u7, rfl⟩, hd7, hb7⟩); (have HD7 := Lib.hid hd7); (have HB7 := Lib.hid hb7); (have HD67 := Lib.hid (show DiskAt F6 w7 p2 CB from HD6.out.on fun q hq => hb7.block q (HH6.out q hq) (fun h5 => H56.out q h5 hq))); (clear hd7 hb7))
      go_upto_region 14 with (go_at_call 22; (refine (on_to HD67.out HOB.out).mono ?_); (rintro e w8 ⟨⟨u8, rfl⟩, hd8, hb8⟩); (have HD8 := Lib.hid hd8); (have HB8y := Lib.hid hb8); (clear hd8 hb8))
      have hs7 : w6.heap.size ≤ w7.heap.size := HB7.out.size
      have hs8 : w7.heap.size ≤ w8.heap.size := HB8y.out.size
      have HD5d := Lib.hid (show DiskAt F5 w8 p1 OA from HD7.out.on fun q hq => HB8y.out.block q (by have := HH5.out q hq; omega) (H56.out q hq))
      have hFU : Beside (fun q => F1 q ∨ F2 q ∨ wr.heap.size ≤ q) wr w8 := (HFU6.out.same (HB7.out.mono (fun q hq => by
          rcases (HF5.out q hq).1 with h | h
          · exact .inl h
          · exact .inr (.inr h)))).same (HB8y.out.mono (fun q hq => by
          rcases (HF6.out q hq).1 with h | h
          · exact .inr (.inl h)
          · exact .inr (.inr (by omega))))
      have hG1U : ∀ q, G1 q → ¬ (F1 q ∨ F2 q ∨ wr.heap.size ≤ q) := fun q hq h => by
        have a1 := HG1V.out q hq
        rcases h with h | h | h
        · exact HGF1.out q hq h
        · have := HF2V.out q h; omega
        · omega
      have hnbU : ¬ (F1 nb1 ∨ F2 nb1 ∨ wr.heap.size ≤ nb1) := fun h => by
        rcases h with h | h | h
        · exact HNF1.out h
        · have := HF2V.out _ h; omega
        · omega
      have hX8 := HXr.out.beside hFU hnbU
      have hR8 := HRr.out.beside hFU HGr.out hG1U
      have hG8 : Held G1 w8 := fun q hq => by have := HGr.out q hq; omega
      have hB8 : Below w.heap.size w w8 := HBr.out.trans (hFU.below (fun q hq => by
        rcases hq with h | h | h
        · exact HFBw1.out q h
        · have := HF2V.out q h; omega
        · omega) HBr.out.size)
      have hrr : RefAt G1 w8 (.agg #[.int .i64 (D.blocks : Int), .int .i64 (D.size : Int), .slice la1 xs1.length lc1, .slice wa1 k wc1, .bool D.lit, .int .i64 D.after, .int .i64 D.torn, .int .i64 D.cut, .slice ka1 D.keep.length kc1, .bool D.off, .int .i64 D.count]) D := hR8.at
      have HX8 := Lib.hid hX8
      have HRR := Lib.hid hrr
      have HG8 := Lib.hid hG8
      have HBW8 := Lib.hid hB8
      have HH58 := Lib.hid (show Held F5 w8 from fun q hq => by have := HH5.out q hq; omega)
      have HH68 := Lib.hid (show Held F6 w8 from fun q hq => by have := HH6.out q hq; omega)
      have HN5 := Lib.hid (show ∀ q, F5 q → q ≠ nb1 from fun q hq e => by
        subst e
        rcases (HF5.out _ hq).1 with h | h
        · exact HNF1.out h
        · omega)
      have HN6 := Lib.hid (show ∀ q, F6 q → q ≠ nb1 from fun q hq e => by
        subst e
        rcases (HF6.out _ hq).1 with h | h
        · have := HF2V.out _ h; omega
        · omega)
      have hnb8 : nb1 < w8.heap.size := by omega
      clear hFU hG1U hnbU hX8 hR8 hG8 hB8 hrr
      obtain ⟨x0, x1, x2, x3, x4, x5, x6, x7, x8, x9, x10⟩ := HX8.out.eleven
      obtain ⟨fx0, fx1, fx2, fx3, fx4, fx5, fx6, fx7, fx8, fx9, fx10⟩ := HX8.out.elevenF
      go_upto_region 15 with (go_at_call 24; (refine (refOn4_to HRR.out HG8.out HON.out).mono ?_); (rintro e w9 ⟨⟨v9, rfl, hr9⟩, hb9⟩); (obtain ⟨lv3, wv3, kv3, xs3, ys3, rfl, h3⟩ := hr9); (obtain ⟨la3, lc3, wa3, wc3, ka3, kc3, rfl, rfl, rfl⟩ := h3.shape); (have H3 := Lib.hid h3); (have HB9x := Lib.hid hb9); (have HX9 := Lib.hid (HX8.out.below hb9)); (clear h3 hb9 x0 x1 x2 x3 x4 x5 x6 x7 x8 x9 x10 fx0 fx1 fx2 fx3 fx4 fx5 fx6 fx7 fx8 fx9 fx10); (obtain ⟨x0, x1, x2, x3, x4, x5, x6, x7, x8, x9, x10⟩ := HX9.out.eleven); (obtain ⟨fx0, fx1, fx2, fx3, fx4, fx5, fx6, fx7, fx8, fx9, fx10⟩ := HX9.out.elevenF); (unfold refD))
      refine wp_name fun T hT => ?_
      have hfu := fill11 HX9.out (.int .i64 (D1.blocks : Int)) (.int .i64 (D1.size : Int)) (.slice la3 xs3.length lc3) (.slice wa3 ys3.length wc3) (.bool D1.lit) (.int .i64 D1.after) (.int .i64 D1.torn) (.int .i64 D1.cut) (.slice ka3 D1.keep.length kc3) (.bool D1.off) (.int .i64 D1.count)
      rw [← hT] at hfu
      have hs9 : w8.heap.size ≤ w9.heap.size := HB9x.out.size
      have hsT : w9.heap.size ≤ T.heap.size := hfu.2.size
      have hGA : ∀ q, More G1 w8 w9 q → q ≠ nb1 ∧ q < w9.heap.size := fun q hq => by
        rcases hq with h | h
        · exact ⟨fun e => HNG1.out (e ▸ h), by have := HG8.out q h; omega⟩
        · omega
      have HXT := Lib.hid (show BoxAt T nb1 [.int .i64 (D1.blocks : Int), .int .i64 (D1.size : Int), .slice la3 xs3.length lc3, .slice wa3 ys3.length wc3, .bool D1.lit, .int .i64 D1.after, .int .i64 D1.torn, .int .i64 D1.cut, .slice ka3 D1.keep.length kc3, .bool D1.off, .int .i64 D1.count] from hfu.1)
      have HRT := Lib.hid (show DiskR (More G1 w8 w9) T D1 (.slice la3 xs3.length lc3) (.slice wa3 ys3.length wc3) (.slice ka3 D1.keep.length kc3) xs3 ys3 from H3.out.on fun q hq => hfu.2.block q (hGA q hq).2 (by intro e; cases e; exact (hGA _ hq).1 rfl))
      have HGT := Lib.hid (show Held (More G1 w8 w9) T from fun q hq => by have := (hGA q hq).2; omega)
      have HGA := Lib.hid hGA
      have HD5T := Lib.hid (show DiskAt F5 T p1 OA from (HD5d.out.below HH58.out HB9x.out).on fun q hq => hfu.2.block q (by have := HH58.out q hq; omega) (by intro e; cases e; exact HN5.out _ hq rfl))
      have HD6T := Lib.hid (show DiskAt F6 T p2 OB from (HD8.out.below HH68.out HB9x.out).on fun q hq => hfu.2.block q (by have := HH68.out q hq; omega) (by intro e; cases e; exact HN6.out _ hq rfl))
      have HBT := Lib.hid (show Below w.heap.size w T from (HBW8.out.trans (HB9x.out.mono HBW8.out.size)).grown hfu.2 (by have := HBW8.out.size; omega) (by intro q hq; cases hq; omega))
      have HH5T := Lib.hid (show Held F5 T from fun q hq => by have := HH58.out q hq; omega)
      have HH6T := Lib.hid (show Held F6 T from fun q hq => by have := HH68.out q hq; omega)
      clear hT hfu hGA x0 x1 x2 x3 x4 x5 x6 x7 x8 x9 x10 fx0 fx1 fx2 fx3 fx4 fx5 fx6 fx7 fx8 fx9 fx10
      have hrt := HRT.out.at
      unfold refD at hrt
      have HRTT := Lib.hid hrt
      clear hrt
      obtain ⟨x0, x1, x2, x3, x4, x5, x6, x7, x8, x9, x10⟩ := HXT.out.eleven
      obtain ⟨fx0, fx1, fx2, fx3, fx4, fx5, fx6, fx7, fx8, fx9, fx10⟩ := HXT.out.elevenF
      go_upto_region 16 with (go_at_call 23; (refine (refFlush4_to HRTT.out HD1O.out HGT.out HXX.out).mono ?_); (rintro e wA ⟨⟨vA, rfl, hrA⟩, hbA⟩); (obtain ⟨lv6, wv6, kv6, xs6, ys6, rfl, h6⟩ := hrA); (obtain ⟨la6, lc6, wa6, wc6, ka6, kc6, rfl, rfl, rfl⟩ := h6.shape); (have H6 := Lib.hid h6); (have HBA := Lib.hid hbA); (clear h6 hbA x0 x1 x2 x3 x4 x5 x6 x7 x8 x9 x10 fx0 fx1 fx2 fx3 fx4 fx5 fx6 fx7 fx8 fx9 fx10); (unfold refD))
      refine wp_name fun U hU => ?_
      obtain ⟨nb3, hnb3⟩ : ∃ nb, wA.heap.size = nb := ⟨_, rfl⟩
      have hsA : T.heap.size ≤ wA.heap.size := HBA.out.size
      have hUb : Below wA.heap.size wA U := by rw [hU]; exact (Below.refl _ _).alloc (Nat.le_refl _) _
      have HXX3 := Lib.hid (show BoxAt U nb3 [.int .i64 (X.blocks : Int), .int .i64 (X.size : Int), .slice la6 xs6.length lc6, .slice wa6 ys6.length wc6, .bool X.lit, .int .i64 X.after, .int .i64 X.torn, .int .i64 X.cut, .slice ka6 X.keep.length kc6, .bool X.off, .int .i64 X.count] by rw [hU]; exact BoxAt.newAt _ _ hnb3 [_, _, _, _, _, _, _, _, _, _, _] _)
      have hTU : Below T.heap.size T U := below_step HBA.out hUb
      have hnT : nb1 < T.heap.size := HXT.out.lt
      have hn13 : nb1 < nb3 := by omega
      have HXU := Lib.hid (HXT.out.below hTU)
      have HRU := Lib.hid (HRT.out.below HGT.out hTU)
      have hGB : ∀ q, More (More G1 w8 w9) T wA q → q ≠ nb1 ∧ q < nb3 := fun q hq => by
        rcases hq with h | h
        · have := HGA.out q h; exact ⟨this.1, by omega⟩
        · omega
      have HRX := Lib.hid (H6.out.on fun q hq => hUb.block q (by have := (hGB q hq).2; omega))
      have HGB := Lib.hid hGB
      have HD5U := Lib.hid (HD5T.out.below HH5T.out hTU)
      have HD6U := Lib.hid (HD6T.out.below HH6T.out hTU)
      have HBU := Lib.hid (HBT.out.trans (hTU.mono HBT.out.size))
      have hsU : wA.heap.size ≤ U.heap.size := hUb.size
      have hsTn : T.heap.size ≤ nb3 := by omega
      rw [hnb3]
      clear hU hUb hTU hGB hnb3
      obtain ⟨x0, x1, x2, x3, x4, x5, x6, x7, x8, x9, x10⟩ := HXU.out.eleven
      obtain ⟨fx0, fx1, fx2, fx3, fx4, fx5, fx6, fx7, fx8, fx9, fx10⟩ := HXU.out.elevenF
      have z10 := HXX3.out.at 10 _ rfl
      have fz10 := HXX3.out.free 10 _ rfl
      go_upto_region 18 with fail
      refine wp_name fun Z hZ => ?_
      have hZ1 : BoxAt Z nb3 [.int .i64 (X.blocks : Int), .int .i64 (X.size : Int), .slice la6 xs6.length lc6, .slice wa6 ys6.length wc6, .bool X.lit, .int .i64 X.after, .int .i64 X.torn, .int .i64 X.cut, .slice ka6 X.keep.length kc6, .bool X.off, .int .i64 D1.count] := by rw [hZ]; exact (HXX3.out.put 10 _).set (by omega) _ _
      have hZ2 : BoxAt Z nb1 [.int .i64 (D1.blocks : Int), .int .i64 (D1.size : Int), .slice la3 xs3.length lc3, .slice none 0 0, .bool D1.lit, .int .i64 D1.after, .int .i64 D1.torn, .int .i64 D1.cut, .slice ka3 D1.keep.length kc3, .bool D1.off, .int .i64 D1.count] := by rw [hZ]; exact ((HXU.out.set (k := nb3) (by omega) _ _).put 3 _)
      have hZb : ∀ q, q ≠ nb1 → q ≠ nb3 → Z.heap[q]? = U.heap[q]? := fun q h1 h2 => by rw [hZ, heap_set_ne (fun e => h1 e.symm), heap_set_ne (fun e => h2 e.symm)]
      have hZs : Z.heap.size = U.heap.size := by rw [hZ]; simp
      have HZB := Lib.hid (show Below w.heap.size w Z by rw [hZ]; exact (HBU.out.setCell (p := ⟨nb3, 10, none⟩) (show w.heap.size ≤ nb3 by omega) _).setCell (p := ⟨nb1, 3, none⟩) hnb1w _)
      have hnbU3 : nb3 < U.heap.size := HXX3.out.lt
      have HZ1 := Lib.hid hZ1
      have HZ2 := Lib.hid hZ2
      have HD5Z := Lib.hid (show DiskAt F5 Z p1 OA from HD5U.out.on fun q hq => hZb q (HN5.out q hq) (by have := HH5T.out q hq; omega))
      have HD6Z := Lib.hid (show DiskAt F6 Z p2 OB from HD6U.out.on fun q hq => hZb q (HN6.out q hq) (by have := HH6T.out q hq; omega))
      have HH5Z := Lib.hid (show Held F5 Z from fun q hq => by have := HH5T.out q hq; omega)
      have HH6Z := Lib.hid (show Held F6 Z from fun q hq => by have := HH6T.out q hq; omega)
      have HGAZ := Lib.hid (show Held (More G1 w8 w9) Z from fun q hq => by have := HGT.out q hq; omega)
      have HGBZ := Lib.hid (show Held (More (More G1 w8 w9) T wA) Z from fun q hq => by have := (HGB.out q hq).2; omega)
      have HRXZ := Lib.hid ((HRX.out.on fun q hq => hZb q (HGB.out q hq).1 (by have := (HGB.out q hq).2; omega)).as (d' := { X with count := D1.count }) rfl rfl rfl)
      have HRWZ := Lib.hid ((HRU.out.on fun q hq => hZb q (HGA.out q hq).1 (by have := HGT.out q hq; omega)).noWaiting)
      have HOBA' := Lib.hid (show Obs OA { X with count := D1.count } by rw [HCN.out]; exact HOBA.out)
      have HXO' := Lib.hid (show Bk.Ok 40 { X with count := D1.count } from ⟨HXO.out.b, HXO.out.s, HXO.out.len, HXO.out.each, HXO.out.wait, HXO.out.many⟩)
      have HWO' := Lib.hid (show Bk.Ok 40 { D1 with waiting := [] } from ⟨HD1O.out.b, HD1O.out.s, HD1O.out.len, HD1O.out.each, fun i y hy => by simp at hy, by simp⟩)
      clear hZ hZ1 hZ2 hZb hZs x0 x1 x2 x3 x4 x5 x6 x7 x8 x9 x10 fx0 fx1 fx2 fx3 fx4 fx5 fx6 fx7 fx8 fx9 fx10 z10 fz10
      obtain ⟨x0, x1, x2, x3, x4, x5, x6, x7, x8, x9, x10⟩ := HZ1.out.eleven
      obtain ⟨z0, z1, z2, z3, z4, z5, z6, z7, z8, z9, z10⟩ := HZ2.out.eleven
      have hr1 := HRXZ.out.at
      have hr2 := HRWZ.out.at
      unfold refD at hr1 hr2
      have HR1 := Lib.hid hr1
      have HR2 := Lib.hid hr2
      clear hr1 hr2
      go_wp2_with (first
        | (go_at_call 27; (refine (all04_any HDY.out HOBO.out HOBB.out HRY.out HHY.out HGY.out HWO'.out A (HS.out.below HBY.out)).mono ?_); (rintro e wC ⟨rfl, hb⟩); (have HBC := Lib.hid (below_step HBY.out hb)); (clear hb))
        | (go_at_call 27; (refine (all04_any HD5Z.out HOAO.out HOBA'.out HR1.out HH5Z.out HGBZ.out HXO'.out A (HS.out.below HZB.out)).mono ?_); (rintro e wB ⟨rfl, hb⟩); (have HBY := Lib.hid (below_step HZB.out hb)); (have HDY := Lib.hid (HD6Z.out.below HH6Z.out hb)); (have HRY := Lib.hid (HR2.out.below HGAZ.out hb)); (have HHY := Lib.hid (HH6Z.out.more hb.size)); (have HGY := Lib.hid (HGAZ.out.more hb.size)); (have HZY := Lib.hid (HZ2.out.below hb)); (clear hb x0 x1 x2 x3 x4 x5 x6 x7 x8 x9 x10 z0 z1 z2 z3 z4 z5 z6 z7 z8 z9 z10); (obtain ⟨z0, z1, z2, z3, z4, z5, z6, z7, z8, z9, z10⟩ := HZY.out.eleven))
        | (go_at_call 17; (refine (awake04_any _ A (HS.out.below HBC.out)).mono ?_); (rintro e wD ⟨rfl, hb⟩); (have HBD := Lib.hid (below_step HBC.out hb)); (clear hb)))
      go_ret
      exact ⟨rfl, HBD.out⟩
end Go.Proofs.YtflbioiildndoaaDoor

