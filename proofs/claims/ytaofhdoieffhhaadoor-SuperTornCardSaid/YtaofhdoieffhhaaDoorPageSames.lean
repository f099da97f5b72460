/- pages: the walk of PageSames -/
import Derived.Test.YtaofhdoieffhhaaDoorPageLaws
namespace Go.Proofs.YtaofhdoieffhhaaDoor
open Go.RowKit
set_option linter.unusedVariables false
set_option linter.unusedSimpArgs false

theorem Box4.new2 (w : World) (o : Obj) (v0 v1 v2 v3 : Value) (t : TypeId) : Box4 ((w.alloc o).alloc (.cells #[v0, v1, v2, v3] t)) (w.heap.size + 1) v0 v1 v2 v3 := by
  have := Box4.new (w.alloc o) v0 v1 v2 v3 t
  rwa [show (w.alloc o).heap.size = w.heap.size + 1 by simp] at this
set_option maxRecDepth 100000 in
set_option maxHeartbeats 2000000 in
theorem pageSames_walk (p q : Pg.Page) (s1 s2 : Value) (w : World) (A : Nat → Addr) {S : Nat → Prop} [Has S 1] [Has S 2] [Has S 5] (hs : SentsOn S w A) (h1 : BytesAt w s1 p.body) (h2 : BytesAt w s2 q.body) :
    Calls Tryd.prog 4 #[.agg #[.int .i64 p.kind, .int .i64 p.id, .int .u64 (p.gen : Int), s1], .agg #[.int .i64 q.kind, .int .i64 q.id, .int .u64 (q.gen : Int), s2]] w fun e w' => e = .returned (.bool true) ∧ Below w.heap.size w w' := by
  have HS := Lib.hid hs
  have H1 := Lib.hid h1
  have H2 := Lib.hid h2
  have hC := pageEq_self p
  clear hs h1 h2
  go_enter Tryd.func4, Tryd.ntmps4
  go_wp2_with fail
  refine wp_name fun W hW => ?_
  have hbw : Below w.heap.size w W := by rw [hW]; go_grown
  have hX : Box4 W w.heap.size (.int .i64 p.kind) (.int .i64 p.id) (.int .u64 (p.gen : Int)) s1 := by rw [hW]; exact (Box4.new _ _ _ _ _ _).alloc _
  have hY : Box4 W (w.heap.size + 1) (.int .i64 q.kind) (.int .i64 q.id) (.int .u64 (q.gen : Int)) s2 := by rw [hW]; exact Box4.new2 _ _ _ _ _ _ _
  have m0 := Later.cell (w := W) hX.c0
  have m1 := Later.cell (w := W) hX.c1
  have m2 := Later.cell (w := W) hX.c2
  have m3 := Later.cell (w := W) hX.c3
  have n0 := Later.cell (w := W) hY.c0
  have n1 := Later.cell (w := W) hY.c1
  have n2 := Later.cell (w := W) hY.c2
  have n3 := Later.cell (w := W) hY.c3
  have H1' := Lib.hid (H1.out.below hbw)
  have H2' := Lib.hid (H2.out.below hbw)
  have HS' := Lib.hid (HS.out.below hbw)
  have HW := Lib.hid hbw
  clear hW hX hY hbw
  refine wp_region_later (by kernel_rfl) (by kernel_rfl) ?_
  repeat (first
    | go_big_quiet_step (first
      | (go_at_call 19; exact Calls.later_of (pageSame_any _ _ _ _ _ (by first | exact Later.bytes H1'.out _ | exact Later.bytes H2'.out _) (by first | exact Later.bytes H1'.out _ | exact Later.bytes H2'.out _)))
      | (go_at_call 16; exact Calls.later_of (refSame_any _ _ _ _ _ (by first | exact Later.bytes H1'.out _ | exact Later.bytes H2'.out _) (by first | exact Later.bytes H1'.out _ | exact Later.bytes H2'.out _)))
      | (go_at_call 18; exact Calls.later_of (pageAwake_any _ A (HS'.out.below (Later.below _)))))
    | quiet_step (first
      | (go_at_call 19; exact Calls.later_of (pageSame_any _ _ _ _ _ (by first | exact Later.bytes H1'.out _ | exact Later.bytes H2'.out _) (by first | exact Later.bytes H1'.out _ | exact Later.bytes H2'.out _)))
      | (go_at_call 16; exact Calls.later_of (refSame_any _ _ _ _ _ (by first | exact Later.bytes H1'.out _ | exact Later.bytes H2'.out _) (by first | exact Later.bytes H1'.out _ | exact Later.bytes H2'.out _)))
      | (go_at_call 18; exact Calls.later_of (pageAwake_any _ A (HS'.out.below (Later.below _))))))
  refine wpQuiet_nil ?_
  intro xw
  go_wp2
  go_ret
  exact ⟨rfl, below_step HW.out xw.below⟩
end Go.Proofs.YtaofhdoieffhhaaDoor
