/- block: Lasting where there is no such block; Geometry, Off, Count, Waiting; Read -/
import Derived.Test.YtflbioiildndoaaDoorBlock2
namespace Go.Proofs.YtflbioiildndoaaDoor
open Go.RowKit
set_option linter.unusedVariables false
set_option linter.unusedSimpArgs false

theorem lasting_out {F : Nat → Prop} {w : World} {p : Nat} {d : Bk.Disk} (hd : DiskAt F w p d) (i : Int) (h1 : i < 0 ∨ (d.blocks : Int) ≤ i) (A : Nat → Addr) (hs : Sents w A) :
    Calls Tryd.prog 32 #[.pointer (some ⟨p, 0, none⟩), .int .i64 i] w fun e w' => FailsB w A [max i (-1)] 2 e w' ∧ Below w.heap.size w w' := by
  obtain ⟨lv, wv, kv, gs, hs0, hp⟩ := hd
  obtain ⟨m0, -⟩ := hp.box.eleven
  have HS := Lib.hid hs
  have H1 := Lib.hid h1
  clear hs h1 hp
  go_enter Tryd.func32, Tryd.ntmps32
  go_wp2_with (go_at_call 66; refine (check_out p _ i _ _ m0 H1.out A HS.out).mono ?_; rintro e w' ⟨⟨v, rfl, hv⟩, hb⟩; obtain ⟨tv, xv, rfl⟩ := hv.iface (by decide))
  go_ret2
  exact ⟨⟨_, rfl, hv⟩, hb⟩
theorem lasting_nil (i : Int) (w : World) (A : Nat → Addr) (hs : Sents w A) :
    Calls Tryd.prog 32 #[.pointer none, .int .i64 i] w fun e w' => FailsB w A [-1] 7 e w' ∧ Below w.heap.size w w' := by
  have HS := Lib.hid hs
  clear hs
  go_enter Tryd.func32, Tryd.ntmps32
  go_wp2_with (go_at_call 66; refine (check_nil _ i _ A HS.out).mono ?_; rintro e w' ⟨⟨v, rfl, hv⟩, hb⟩; obtain ⟨tv, xv, rfl⟩ := hv.iface (by decide))
  go_ret2
  exact ⟨⟨_, rfl, hv⟩, hb⟩
theorem read_err (i : Int) (k : Nat) (l : List Int) (hk : k ≠ 0) (P : Value) (w : World) (A : Nat → Addr)
    (hc : ∀ (op : ByteArray) (w1 : World), w1 = w → Calls Tryd.prog 57 #[P, .string op, .int .i64 i] w1 fun e w' => IsFault A w.heap.size l k e w' ∧ Below w.heap.size w w') :
    Calls Tryd.prog 18 #[P, .int .i64 i] w fun e w' => FailsB w A l k e w' ∧ Below w.heap.size w w' := by
  have HC := Lib.hid hc
  clear hc
  go_enter Tryd.func18, Tryd.ntmps18
  go_wp2_with (go_at_call 57; refine (HC.out _ _ rfl).mono ?_; rintro e w' ⟨⟨v, rfl, hv⟩, hb⟩; obtain ⟨tv, xv, rfl⟩ := hv.iface hk)
  go_ret2
  exact ⟨⟨_, rfl, hv⟩, hb⟩
theorem read_out {F : Nat → Prop} {w : World} {p : Nat} {d : Bk.Disk} (hd : DiskAt F w p d) (i : Int) (h1 : i < 0 ∨ (d.blocks : Int) ≤ i) (A : Nat → Addr) (hs : Sents w A) :
    Calls Tryd.prog 18 #[.pointer (some ⟨p, 0, none⟩), .int .i64 i] w fun e w' => FailsB w A [max i (-1)] 2 e w' ∧ Below w.heap.size w w' := by
  obtain ⟨lv, wv, kv, gs, hs0, hp⟩ := hd
  exact read_err i 2 _ (by decide) _ w A fun op w1 e => by subst e; exact on_out p op i _ _ hp.box.eleven.1 h1 A hs
theorem read_off {F : Nat → Prop} {w : World} {p : Nat} {d : Bk.Disk} (hd : DiskAt F w p d) (i : Int) (h1 : 0 ≤ i) (h2 : i < d.blocks) (hoff : d.off = true) (A : Nat → Addr) (hs : Sents w A) :
    Calls Tryd.prog 18 #[.pointer (some ⟨p, 0, none⟩), .int .i64 i] w fun e w' => FailsB w A [max i (-1)] 7 e w' ∧ Below w.heap.size w w' := by
  obtain ⟨lv, wv, kv, gs, hs0, hp⟩ := hd
  refine read_err i 7 _ (by decide) _ w A fun op w1 e => ?_
  subst e
  refine on_off p op i _ _ hp.box.eleven.1 h1 h2 ?_ A hs
  rw [hp.box.at 9 (.bool d.off) rfl, hoff]
theorem read_nil (i : Int) (w : World) (A : Nat → Addr) (hs : Sents w A) :
    Calls Tryd.prog 18 #[.pointer none, .int .i64 i] w fun e w' => FailsB w A [-1] 7 e w' ∧ Below w.heap.size w w' :=
  read_err i 7 _ (by decide) _ w A fun op w1 e => by subst e; exact on_nil op i _ A hs

/-! ### what a disk tells of itself -/
theorem geo_is {F : Nat → Prop} {w : World} {p : Nat} {d : Bk.Disk} (hd : DiskAt F w p d) :
    Calls Tryd.prog 19 #[.pointer (some ⟨p, 0, none⟩)] w fun e w' => e = .returned (.agg #[.int .i64 (d.blocks : Int), .int .i64 (d.size : Int)]) ∧ Below w.heap.size w w' := by
  obtain ⟨lv, wv, kv, gs, hs0, hp⟩ := hd
  obtain ⟨m0, m1, -⟩ := hp.box.eleven
  have hpl := hp.box.lt
  clear hp
  go_enter Tryd.func19, Tryd.ntmps19
  go_wp2_with fail
  exact bodyPost_ret (v := .agg #[.int .i64 (d.blocks : Int), .int .i64 (d.size : Int)]) (by simp [results, Tryd.results19, go_sem]) rfl ⟨rfl, by go_grown⟩
theorem geo_nil (w : World) :
    Calls Tryd.prog 19 #[.pointer none] w fun e w' => e = .returned (.agg #[.int .i64 0, .int .i64 0]) ∧ Below w.heap.size w w' := by
  go_enter Tryd.func19, Tryd.ntmps19
  go_wp2_with fail
  exact bodyPost_ret (v := .agg #[.int .i64 0, .int .i64 0]) (by simp [results, Tryd.results19, go_sem]) rfl ⟨rfl, by go_grown⟩
theorem off_is {F : Nat → Prop} {w : World} {p : Nat} {d : Bk.Disk} (hd : DiskAt F w p d) (B : Bool) (hB : d.off = B) :
    Calls Tryd.prog 31 #[.pointer (some ⟨p, 0, none⟩)] w fun e w' => e = .returned (.bool B) ∧ w = w' := by
  obtain ⟨lv, wv, kv, gs, hs0, hp⟩ := hd
  have m9 : w.cell? ⟨p, 9, none⟩ = some (.bool B) := by rw [← hB]; exact hp.box.at 9 _ rfl
  clear hp hB
  go_enter Tryd.func31, Tryd.ntmps31
  go_wp2_with fail
  go_ret
  exact ⟨rfl, rfl⟩
theorem off_nil (w : World) :
    Calls Tryd.prog 31 #[.pointer none] w fun e w' => e = .returned (.bool true) ∧ w = w' := by
  go_enter Tryd.func31, Tryd.ntmps31
  go_wp2_with fail
  go_ret
  exact ⟨rfl, rfl⟩
theorem count_is {F : Nat → Prop} {w : World} {p : Nat} {d : Bk.Disk} (hd : DiskAt F w p d) :
    Calls Tryd.prog 30 #[.pointer (some ⟨p, 0, none⟩)] w fun e w' => e = .returned (.int .i64 d.count) ∧ w = w' := by
  obtain ⟨lv, wv, kv, gs, hs0, hp⟩ := hd
  have m9 := hp.box.at 10 (.int .i64 d.count) rfl
  clear hp
  go_enter Tryd.func30, Tryd.ntmps30
  go_wp2_with fail
  go_ret
  exact ⟨rfl, rfl⟩
theorem count_nil (w : World) :
    Calls Tryd.prog 30 #[.pointer none] w fun e w' => e = .returned (.int .i64 0) ∧ w = w' := by
  go_enter Tryd.func30, Tryd.ntmps30
  go_wp2_with fail
  go_ret
  exact ⟨rfl, rfl⟩
theorem waiting_is {F : Nat → Prop} {w : World} {p : Nat} {d : Bk.Disk} (hd : DiskAt F w p d) :
    Calls Tryd.prog 20 #[.pointer (some ⟨p, 0, none⟩)] w fun e w' => e = .returned (.int .i64 (d.waiting.length : Int)) ∧ w = w' := by
  obtain ⟨lv, wv, kv, gs, hs0, hp⟩ := hd
  have m3 := hp.box.at 3 wv rfl
  obtain ⟨a, c, e, -⟩ := hp.wait.slice
  rw [hp.hlen] at e
  subst e
  clear hp
  go_enter Tryd.func20, Tryd.ntmps20
  go_wp2_with fail
  go_ret
  exact ⟨rfl, rfl⟩
theorem waiting_nil (w : World) :
    Calls Tryd.prog 20 #[.pointer none] w fun e w' => e = .returned (.int .i64 0) ∧ w = w' := by
  go_enter Tryd.func20, Tryd.ntmps20
  go_wp2_with fail
  go_ret
  exact ⟨rfl, rfl⟩

/-! ### Read -/
theorem readK_hit {q : List (Nat × Bk.Blk)} {i : Nat} {base : Bk.Blk} {k : Nat} {z : Nat × Bk.Blk} (h : q[k]? = some z) (e : z.1 = i) : Bk.readK q i base (k + 1) = z.2 := by rw [Bk.readK, h]; simp [e]
theorem readK_miss {q : List (Nat × Bk.Blk)} {i : Nat} {base : Bk.Blk} {k : Nat} {z : Nat × Bk.Blk} (h : q[k]? = some z) (e : z.1 ≠ i) : Bk.readK q i base (k + 1) = Bk.readK q i base k := by rw [Bk.readK, h]; simp [e]
def ReadsAt (d : Bk.Disk) (i : Nat) (l : List UInt8) (kk : Value) : Prop := (∃ m : Nat, m < d.waiting.length ∧ kk = .int .i64 (m : Int) ∧ Bk.readK d.waiting i (Bk.lastB d i) (m + 1) = l) ∨ (kk = .int .i64 (-1) ∧ Bk.lastB d i = l)
set_option maxRecDepth 100000 in
theorem read_ok {F : Nat → Prop} {w : World} {p n : Nat} {d : Bk.Disk} (hd : DiskAt F w p d) (ho : Bk.Ok n d) (i : Int) (h1 : 0 ≤ i) (h2 : i < d.blocks) (hoff : d.off = false) (l : List UInt8) (hl : Bk.read d i.toNat = l) :
    Calls Tryd.prog 18 #[.pointer (some ⟨p, 0, none⟩), .int .i64 i] w fun e w' => GivesB w l e w' ∧ Below w.heap.size w w' := by
  obtain ⟨lv, wv, kv, gs, hs, hp⟩ := hd
  obtain ⟨lg, lc, elv, hlc, hcm⟩ := hp.lastRow ho
  obtain ⟨k, rfl⟩ : ∃ k : Nat, i = (k : Int) := ⟨i.toNat, by omega⟩
  have hk : k < d.blocks := by omega
  simp only [Int.toNat_natCast] at hl
  have hll : l.length = d.size := by rw [← hl]; exact ho.read hk
  have hsz := ho.s
  obtain ⟨m0, -, m2, m3, -, -, -, -, -, m9, -⟩ := hp.box.eleven
  rw [hoff] at m9
  subst elv
  unfold maxLen at hcm
  have hlen : l.length ≤ 100000000 := by omega
  obtain ⟨wa, wc, ewv, hwl, hwm⟩ := hp.wait.slice
  rw [hp.hlen] at ewv hwl
  unfold maxLen at hwm
  subst ewv
  have HP := Lib.hid hp
  have HOK := Lib.hid ho
  have HL := Lib.hid hl
  have HLL := Lib.hid hll
  have k1 : (0 : Int) ≤ (k : Int) := by omega
  have hstart : ∀ x, x = Value.int .i64 ((d.waiting.length : Int) - 1) → ReadsAt d k l x := by
    rintro x rfl
    unfold Bk.read at hl
    cases hn : d.waiting.length with
    | zero =>
      rw [hn] at hl
      exact .inr ⟨by rw [show ((0 : Nat) : Int) - 1 = -1 from rfl], hl⟩
    | succ m =>
      rw [hn] at hl
      exact .inl ⟨m, by rw [hn]; omega, by rw [show ((m + 1 : Nat) : Int) - 1 = (m : Int) by omega], hl⟩
  have HST := Lib.hid hstart
  clear hp ho hl hll hstart
  go_enter Tryd.func18, Tryd.ntmps18
  go_wp2_with (go_at_call 57; refine (on_ok p _ (k : Int) _ _ m0 h1 h2 m9).mono ?_; rintro e w1 ⟨rfl, rfl⟩)
  go_loop [7] (fun kk => ReadsAt d k l kk) (fun kk => (intOf kk + 1).toNat)
  case atStart => exact HST.out _ rfl
  case round =>
    rcases hrel with ⟨m, hm, rfl, hr⟩ | ⟨rfl, hr⟩
    · obtain ⟨z, hz⟩ := getElem?_some_of_lt hm
      obtain ⟨wg, wc2, g, c, ewv, hhs, c0, c1, hown⟩ := HP.out.waitCell hz
      simp only [Value.slice.injEq, true_and] at ewv
      obtain ⟨rfl, rfl⟩ := ewv
      have hm1 : (0 : Int) ≤ (m : Int) := by omega
      have hm2 : (m : Int) < (d.waiting.length : Int) := by omega
      by_cases hzi : z.1 = k
      · have e1 : ((z.1 : Int) == (k : Int)) = true := by simp [hzi]
        have ez : z.2 = l := (readK_hit hz hzi).symm.trans hr
        rw [ez, ← HLL.out] at hown
        rw [← HLL.out] at c1
        have HO := Lib.hid hown
        clear hown hr hzi hz hhs ez
        go_wp2_with (go_at_call 58; refine (cloned_any _ l _ HO.out.bytes hlen).mono ?_; rintro e w2 ⟨⟨rfl, ho2⟩, hb2⟩)
        go_ret2
        exact ⟨⟨_, rfl, ho2⟩, hb2⟩
      · have e1 : ((z.1 : Int) == (k : Int)) = false := by simp; omega
        have hr2 := (readK_miss hz hzi).symm.trans hr
        have HR2 := Lib.hid hr2
        clear hown hr hzi hz hhs hr2
        cases m with
        | zero =>
          go_wp2_with fail
          go_round
          case rel => exact .inr ⟨by simp, HR2.out⟩
          case measure => simp [intOf]
        | succ m =>
          go_wp2_with fail
          go_round
          case rel => exact .inl ⟨m, by omega, by first | rfl | (rw [show ((m + 1 : Nat) : Int) - 1 = (m : Int) by omega]), HR2.out⟩
          case measure => first | (simp [intOf]; done) | (simp [intOf]; omega)
    · obtain ⟨g, hg, hc, hf, hown⟩ := HP.out.lastCell HOK.out rfl hk
      rw [hr, ← HLL.out] at hown
      rw [← HLL.out] at hc
      have HO := Lib.hid hown
      clear hown hr hg hf
      go_wp2_with (go_at_call 58; refine (cloned_any _ l _ HO.out.bytes hlen).mono ?_; rintro e w2 ⟨⟨rfl, ho2⟩, hb2⟩)
      go_ret2
      exact ⟨⟨_, rfl, ho2⟩, hb2⟩
end Go.Proofs.YtflbioiildndoaaDoor
