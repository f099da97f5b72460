/- what an argument reads as: a slice of bytes that came in -/
import Derived.Test.YtflbioiildndoaaDoorRows
import Derived.Test.YtflbioiildndoaaDoorBase
import Derived.ProofKit
import Derived.OpenShut
import Derived.ShutString
import Derived.ChangeOld
import Derived.JoinedCond
import Derived.SizedLaws
import Derived.Deep.DeepHandedRow
namespace Go.Proofs.YtflbioiildndoaaDoor
open Go.ChangeShapes Go.WideShapes Go.ChangeAt Go.RowKit

theorem own : ownKnob Tryd.prog.godebug = none := by kernel_rfl
theorem laidOut : laidOutB Tryd.prog = true := by kernel_rfl
theorem bytesOfByte : Tryd.prog.bytesOf 5 = 1 := by kernel_rfl
theorem cellsOfByte : Tryd.prog.cellsOf 5 = 1 := by kernel_rfl

theorem trod_blocks {H : Type} {enc : TypeId × Value → H} {W : World} {t : TypeId} {v : Value} {d : DataW H} {p : List MemPlace}
    (h : DataW.Trod enc Tryd.prog W 0 (fun _ => true) true t v d p) : ∀ x ∈ p, x.block < W.heap.size := by
  obtain ⟨m, hm⟩ := h
  exact DataW.trod_lt m _ _ _ hm

/-- numbers that fit a byte are bytes -/
theorem bytes_of_ints (zs : List Int) (h : ∀ n ∈ zs, (Lit.int .u8 n).wf = true) : ∃ l : List UInt8, zs = l.map fun x => (x.toNat : Int) := by
  induction zs with
  | nil => exact ⟨[], rfl⟩
  | cons z zs ih =>
    obtain ⟨l, rfl⟩ := ih fun n hn => h n (List.mem_cons_of_mem _ hn)
    obtain ⟨x, rfl⟩ := u8_byte (h z List.mem_cons_self)
    exact ⟨x :: l, rfl⟩

set_option maxRecDepth 100000 in
theorem open_bytes {H : Type} {enc : TypeId × Value → H} {W : World} {base : Nat} {v : Value} {d : DataW H} {p : List MemPlace}
    (hv : Value.okWide Tryd.prog W .any base 32 v) (h : DataW.Trod enc Tryd.prog W 0 (fun _ => true) true 32 v d p) :
    ∃ l, BytesAt W v l ∧ ((l = []) ∨ ∃ elems spare, d = .slice elems spare ∧ l.length = elems.length) := by
  obtain ⟨a, len, cap, rfl⟩ := okWide_slice Tryd.underlying32 hv
  obtain ⟨fuel, hf⟩ := h
  rcases open_ints Tryd.underlying32 Tryd.underlying5 cellsOfByte hf with ⟨hcs, _⟩ | ⟨x, n, c, zs, hcs, _, hl, hm, hz, hx, hcell, hwz⟩
  · simp [Value.cells] at hcs
    obtain ⟨rfl, rfl, rfl⟩ := hcs
    exact ⟨[], BytesAt.nil W, .inl rfl⟩
  · simp [Value.cells] at hcs
    obtain ⟨rfl, rfl, rfl⟩ := hcs
    simp only [Prod.mk.injEq] at hx
    simp only [if_true] at hz
    obtain ⟨l, rfl⟩ := bytes_of_ints zs hwz
    simp only [List.length_map] at hz
    have hlen : (l.take len).length = len := by simp; omega
    refine ⟨l.take len, ⟨_, cap, by rw [hlen], by omega, hm, ?_⟩, .inr ⟨_, _, hx.1, by simp [lits]⟩⟩
    by_cases h0 : l.take len = []
    · exact .inl h0
    · right
      obtain ⟨b, off, spot⟩ := x
      have hne : l ≠ [] := fun e => h0 (by rw [e]; simp)
      have hpos : 0 < (l.map fun x => (x.toNat : Int)).length := by
        cases l with
        | nil => exact absurd rfl hne
        | cons _ _ => simp
      have hspot : spot = none := by simpa [Addr.add] using World.cell?_spot (hcell 0 hpos)
      subst hspot
      refine ⟨b, off, rfl, fun i y hy => ?_⟩
      rw [List.getElem?_take] at hy
      split at hy
      · have hi : i < l.length := (List.getElem?_eq_some_iff.1 hy).1
        have := hcell i (by simpa using hi)
        rw [add_plain] at this
        rw [this]
        simp [List.getD, hy]
      · cases hy

/-- the reach, of a slice of bytes -/
theorem reach_bytes {H : Type} {ts : List TypeId} {ds : List (DataW H)} (hsz : (DataW.weightsEach Tryd.prog ts ds).all (· ≤ reachBytes) = true) {j : Nat} {d : DataW H} (ht : ts[j]? = some 32) (hd : ds[j]? = some d)
    {l : List UInt8} (h : (l = []) ∨ ∃ elems spare, d = .slice elems spare ∧ l.length = elems.length) : l.length ≤ 140737488351232 := by
  rcases h with rfl | ⟨elems, spare, rfl, hl⟩
  · simp
  · have := sized_slice hsz ht hd Tryd.underlying32
    rw [bytesOfByte] at this
    simp only [reachBytes] at this
    omega
end Go.Proofs.YtflbioiildndoaaDoor
