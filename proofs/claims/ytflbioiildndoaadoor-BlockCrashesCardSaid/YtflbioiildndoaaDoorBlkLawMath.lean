/- the plain law of played disks: their geometry; what a flush, a crash makes of them -/
import Derived.Test.YtflbioiildndoaaDoorBlkPlay
import Derived.Test.YtflbioiildndoaaDoorBlkSame
namespace Go.Proofs.YtflbioiildndoaaDoor
open Go.RowKit

theorem corrupt_geo (d : Bk.Disk) (i bit : Int) (mask : BitVec 32) : (Bk.corrupt d i bit mask).1.blocks = d.blocks ∧ (Bk.corrupt d i bit mask).1.size = d.size := by
  unfold Bk.corrupt; split <;> exact ⟨rfl, rfl⟩
theorem burns_geo (d : Bk.Disk) : (Bk.burns d).1.blocks = d.blocks ∧ (Bk.burns d).1.size = d.size := by
  unfold Bk.burns; split <;> exact ⟨rfl, rfl⟩
theorem stepT_geo (d : Bk.Disk) (a : BAct) : (stepT d a).1.blocks = d.blocks ∧ (stepT d a).1.size = d.size := by
  unfold stepT
  split
  · unfold Bk.put
    split
    · split
      · exact ⟨rfl, rfl⟩
      · split
        · exact burns_geo _
        · exact ⟨rfl, rfl⟩
    · exact ⟨rfl, rfl⟩
  · split
    · unfold Bk.flush
      split
      · exact ⟨rfl, rfl⟩
      · split <;> exact ⟨rfl, rfl⟩
    · split
      · exact ⟨rfl, rfl⟩
      · split
        · unfold Bk.arm
          split <;> exact ⟨rfl, rfl⟩
        · split
          · exact ⟨rfl, rfl⟩
          · exact corrupt_geo _ _ _ _
theorem playK_geo (acts : List BAct) : ∀ k, (playK acts k).blocks = 8 ∧ (playK acts k).size = 256
  | 0 => ⟨rfl, rfl⟩
  | k + 1 => by
    have ih := playK_geo acts k
    rw [playK]
    split
    · exact ⟨(stepT_geo _ _).1.trans ih.1, (stepT_geo _ _).2.trans ih.2⟩
    · exact ih
theorem playK_blocks (acts : List BAct) (k : Nat) : (playK acts k).blocks = 8 := (playK_geo acts k).1
theorem playK_size (acts : List BAct) (k : Nat) : (playK acts k).size = 256 := (playK_geo acts k).2
theorem played04_to (B : Nat) (lv : Value) (acts : List BAct) (D : Bk.Disk) (hD : playK acts (min acts.length 40) = D) (w : World) (hB : B ≤ w.heap.size) (ha : Acts B w lv acts) (A : Nat → Addr) (hs : Sents w A) :
    Calls Tryd.prog 21 #[lv] w fun e w' => Played w D e w' ∧ Below w.heap.size w w' := by subst hD; exact played04_any B lv acts w hB ha A hs
theorem mod_spell (x : Int) (m : Int) (h0 : 0 < m) (h1 : m ≤ 2048) : wrap64 ((IntKind.u64.wrap x).tmod m) = x % 18446744073709551616 % m := by
  have e : IntKind.u64.wrap x = x % 18446744073709551616 := by rw [IntKind.wrap_u64]
  have hx : 0 ≤ x % 18446744073709551616 := Int.emod_nonneg _ (by decide)
  rw [e, Int.tmod_eq_emod_of_nonneg hx, wrap64_is, IntKind.wrap_i64]
  have h2 := Int.emod_nonneg (x % 18446744073709551616) (show m ≠ 0 by omega)
  have h3 := Int.emod_lt_of_pos (x % 18446744073709551616) h0
  omega
/-- what is apart from F stays apart from what F became -/
theorem Grows.apart {F F' G : Nat → Prop} {w w' : World} (h : Grows F w F' w') (hG : Held G w) (hGF : ∀ k, G k → ¬ F k) : ∀ k, G k → ¬ F' k := fun k hk hf => by
  rcases (h k hf).1 with h1 | h1
  · exact hGF k hk h1
  · have := hG k hk; omega
theorem DiskR.beside {F G : Nat → Prop} {w w' : World} {d : Bk.Disk} {lv wv kv : Value} {xs : List Sl3} {ys : List (Int × Sl3)} (h : DiskR G w d lv wv kv xs ys) (hb : Beside F w w') (hG : Held G w) (hGF : ∀ k, G k → ¬ F k) : DiskR G w' d lv wv kv xs ys := h.on fun k hk => hb.block k (hG k hk) (hGF k hk)
end Go.Proofs.YtflbioiildndoaaDoor
