/- the statements of disks: awake -/
import Derived.Test.YtflbioiildndoaaDoorBlkLaw1
namespace Go.Proofs.YtflbioiildndoaaDoor
open Go.RowKit
set_option linter.unusedVariables false
set_option linter.unusedSimpArgs false

theorem Does.ok {F : Nat → Prop} {w w' : World} {A : Nat → Addr} {p : Nat} {d : Bk.Disk} {e : Ending} (h : Does F w A p d 0 e w') : ∃ F', e = .returned .nilIface ∧ DiskAt F' w' p d ∧ Beside F w w' ∧ Grows F w F' w' := by
  obtain ⟨F', l, v, he, hE, hd, hb, hg⟩ := h
  obtain ⟨rfl, rfl⟩ := hE.isNil
  exact ⟨F', he, hd, hb, hg⟩
theorem Grows.ge {F F' : Nat → Prop} {w w' : World} {B : Nat} (hg : Grows F w F' w') (hB : ∀ k, F k → B ≤ k) (hs : B ≤ w.heap.size) : ∀ k, F' k → B ≤ k := fun k hk => by
  rcases (hg k hk).1 with h | h
  · exact hB k h
  · omega
/-- all that is there, but F -/
def Gc (F : Nat → Prop) (w : World) (k : Nat) : Prop := k < w.heap.size ∧ ¬ F k
theorem Gc.held (F : Nat → Prop) (w : World) : Held (Gc F w) w := fun _ h => h.1
/-- the disk of 'awake' behind the write, and behind the crash -/
def awk1 : Bk.Disk := Bk.ticked (waits (Bk.new 8 256) 2 (fillL 9))
def awk2 : Bk.Disk := Bk.crash awk1 [] 0 3
theorem awk_put : Bk.put (Bk.new 8 256) 2 (fillL 9) = (awk1, 0) := by
  have h : Bk.put (Bk.new 8 256) ((2 : Nat) : Int) (fillL 9) = _ := put_in (by decide)
  rw [show ((2 : Nat) : Int) = 2 from rfl] at h
  rw [h, if_neg (by decide), if_pos (show (fillL 9).length = (Bk.new 8 256).size from fillL_length 9)]
  unfold Bk.burns
  rw [if_neg (by intro h; exact absurd h.1 (by decide))]
  rfl
theorem awk_ok0 : Bk.Ok 0 (Bk.new 8 256) := Bk.Ok.new (by omega) (by omega)
theorem awk_ok1 : Bk.Ok 1 awk1 := (awk_ok0.wait1 (by decide) (fillL_length 9)).ticked
theorem awk_ok2 : Bk.Ok 0 awk2 := awk_ok1.crash _ _ _
theorem awk_read : Bk.read awk2 2 = (fillL 9).take 3 ++ (Bk.zeros 256).drop 3 := by
  have e : awk2.lasting = (List.replicate 8 (Bk.zeros 256)).set 2 (Bk.tornB ((List.replicate 8 (Bk.zeros 256)).getD 2 []) (fillL 9) 3) := by
    show Bk.crashK [] 0 3 [(2, fillL 9)] (List.replicate 8 (Bk.zeros 256)) 1 = _
    rfl
  show Bk.readK [] 2 (Bk.lastB awk2 2) 0 = _
  rw [Bk.readK, Bk.lastB, e, List.getD_eq_getElem?_getD, List.getElem?_set, if_pos rfl, if_pos (by simp)]
  rfl
theorem awk_read2 : (Bk.read awk2 2)[2]? = some 11 := by
  rw [awk_read, List.getElem?_append_left (by rw [List.length_take, fillL_length]; decide), List.getElem?_take, if_pos (by decide), fillL_at 9 (by decide)]
  rfl
theorem awk_read3 : (Bk.read awk2 2)[3]? = some 0 := by
  rw [awk_read, List.getElem?_append_right (by rw [List.length_take, fillL_length]; decide), List.length_take, fillL_length, List.getElem?_drop]
  unfold Bk.zeros
  rw [List.getElem?_replicate]
  rfl
theorem awk_len : (Bk.read awk2 2).length = 256 := awk_ok2.read (by decide)
set_option maxRecDepth 100000 in
theorem awake04_any (w : World) (A : Nat → Addr) (hs : Sents w A) :
    Calls Tryd.prog 17 #[] w fun e w' => e = .returned (.bool true) ∧ Below w.heap.size w w' := by
  obtain ⟨D0, h0⟩ : ∃ D, Bk.new 8 256 = D := ⟨_, rfl⟩
  obtain ⟨D1, h1⟩ : ∃ D, awk1 = D := ⟨_, rfl⟩
  obtain ⟨D2, h2⟩ : ∃ D, awk2 = D := ⟨_, rfl⟩
  obtain ⟨R, hR⟩ : ∃ R, Bk.read D2 2 = R := ⟨_, rfl⟩
  obtain ⟨FL, hFL⟩ : ∃ L, fillL 9 = L := ⟨_, rfl⟩
  have hput : Bk.put D0 2 FL = (D1, 0) := by rw [← h0, ← h1, ← hFL]; exact awk_put
  have hO0 : Bk.Ok 0 D0 := h0 ▸ awk_ok0
  have hO1 : Bk.Ok 1 D1 := h1 ▸ awk_ok1
  have hO2 : Bk.Ok 0 D2 := h2 ▸ awk_ok2
  have hcr : Bk.crash D1 [] 0 3 = D2 := by rw [← h1, ← h2]; rfl
  have hoff : D2.off = false := by rw [← h2]; rfl
  have hb2 : D2.blocks = 8 := by rw [← h2]; rfl
  have hRl : R.length = 256 := by rw [← hR, ← h2]; exact awk_len
  have hR2 : R[2]? = some 11 := by rw [← hR, ← h2]; exact awk_read2
  have hR3 : R[3]? = some 0 := by rw [← hR, ← h2]; exact awk_read3
  have HS := Lib.hid hs
  have HP := Lib.hid hput
  have HC := Lib.hid hcr
  have H0 := Lib.hid h0
  have HO0 := Lib.hid hO0
  have HO1 := Lib.hid hO1
  have HO2 := Lib.hid hO2
  have HOF := Lib.hid hoff
  have HB2 := Lib.hid hb2
  have HR := Lib.hid hR
  have HRL := Lib.hid hRl
  have HR2 := Lib.hid hR2
  have HR3 := Lib.hid hR3
  have HFL := Lib.hid hFL
  clear hs hput hcr h0 h1 h2 hO0 hO1 hO2 hoff hb2 hR hRl hR2 hR3 hFL
  go_enter Tryd.func17, Tryd.ntmps17
  go_upto_region 2 with (first
    | (go_at_call 13; (refine (new_ok4 8 256 (by omega) (by omega) _).mono ?_); (rintro e w2 ⟨⟨p, rfl, hd⟩, hb⟩); (have HD := Lib.hid hd); (have HB := Lib.hid hb); (clear hd hb))
    | (go_at_call 34; (refine (small04_is _).mono ?_); (rintro e w1 ⟨rfl, hb⟩); (have HB1 := Lib.hid hb); (clear hb)))
  have hD2 : DiskAt (fun k => w1.heap.size ≤ k ∧ k < w2.heap.size) w2 p D0 := by have := HD.out; rwa [H0.out] at this
  have HDD := Lib.hid hD2
  have HW2 := Lib.hid (below_step HB1.out HB.out)
  have HSS := Lib.hid (fun w1 (h : Below w.heap.size w w1) => HS.out.below h)
  have hs1 : w.heap.size ≤ w1.heap.size := HB1.out.size
  have HF0 := Lib.hid (show Held (fun k => w1.heap.size ≤ k ∧ k < w2.heap.size) w2 from fun k hk => hk.2)
  clear hD2
  go_upto_region 4 with (first
    | (go_at_call 26; (refine (crash_to HD4.out HO1.out HG4.out.held _ [] (RowAt.nil _ _) (.inl rfl) 0 3 HC.out A).mono ?_); (rintro e w5 h5); (obtain ⟨F5, rfl, hd5, hb5, hg5⟩ := h5.ok); (have HD5 := Lib.hid hd5); (have HB5 := Lib.hid hb5); (clear h5 hd5 hb5 hg5))
    | (go_at_call 33; (refine (write_to (HDD.out.below HF0.out HB3.out) HO0.out (by omega) (fun k hk => Nat.lt_of_lt_of_le (HF0.out k hk) HB3.out.size) 2 _ FL HP.out HO3.out.bytes A (fun wx hx => HSS.out wx ((below_step HW2.out HB3.out).trans (hx.below (fun k hk => Nat.le_trans hs1 hk.1) (by have := HB3.out.size; have := HW2.out.size; omega))))).mono ?_); (rintro e w4 h4); (obtain ⟨F4, rfl, hd4, hb4, hg4⟩ := h4.ok); (have HD4 := Lib.hid hd4); (have HB4 := Lib.hid hb4); (have HG4 := Lib.hid hg4); (clear h4 hd4 hb4 hg4))
    | (go_at_call 56; (refine (fill04_nine _ FL HFL.out).mono ?_); (rintro e w3 ⟨⟨g3, c3, rfl, ho3⟩, hb3⟩); (have HO3 := Lib.hid ho3); (have HB3 := Lib.hid hb3); (clear ho3 hb3)))
  have hge : ∀ k, F4 k → w.heap.size ≤ k := HG4.out.ge (fun k hk => Nat.le_trans hs1 hk.1) (by have := HB3.out.size; have := HW2.out.size; omega)
  have hb3 := below_step HW2.out HB3.out
  have hb4 : Below w.heap.size w w4 := hb3.trans (HB4.out.below (fun k hk => Nat.le_trans hs1 hk.1) hb3.size)
  have hb5 : Below w.heap.size w w5 := hb4.trans (HB5.out.below hge hb4.size)
  have HB := Lib.hid hb5
  clear hge hb3 hb4 hb5
  go_upto_region 5 with (go_at_call 18; (refine (read_to HD5.out HO2.out 2 ⟨by omega, by have := HB2.out; omega⟩ HOF.out R HR.out).mono ?_); (rintro e w6 ⟨⟨g6, rfl, ho6⟩, hb6⟩); (have HO6 := Lib.hid ho6); (have HB6 := Lib.hid hb6); (clear ho6 hb6))
  have hl : (R.length : Int) = 256 := by have := HRL.out; omega
  have c2 := HO6.out.cell rfl HR2.out
  have c3 := HO6.out.cell rfl HR3.out
  rw [show ((11 : UInt8).toNat : Int) = 11 from rfl] at c2
  rw [show ((0 : UInt8).toNat : Int) = 0 from rfl] at c3
  have HRV := Lib.hid (below_step HB.out HB6.out)
  go_wp2_with fail
  go_ret
  exact ⟨rfl, HRV.out⟩
end Go.Proofs.YtflbioiildndoaaDoor
