/-
  DERIVED. GIVEN WITH THE SEED: THE PROGRAM's TIES (one call each: nine closed facts by the kernel) AND EACH ROW's TIE, after the 31st guide's Derived/Test/Toyas{Tie, Card}.lean. No idea stands in it: it is a product of the set-up. Laid BY PROGRAM, IN A SANDBOX (cutbox-door.mjs). By AI agents, Wed Nov 11 2026. No macro, syntax, notation, axiom, sorry.
-/
import Derived.Test.YtnaepddnbnciaaaDoorRows
import Derived.LaidByTextLater
import Derived.SevenTiedAt
import Derived.LaidSub
import Derived.LaidOnce
namespace Go.Proofs.YtnaepddnbnciaaaDoor
open Go
set_option maxRecDepth 100000
theorem seatTie1 : Tryd.prog.laidByTextLater [("scrinium/api.ErrForm", Rows.laid_scrinium_api_ErrForm), ("scrinium/api.ErrRange", Rows.laid_scrinium_api_ErrRange), ("scrinium/api.ErrFull", Rows.laid_scrinium_api_ErrFull), ("scrinium/api.ErrNone", Rows.laid_scrinium_api_ErrNone), ("scrinium/api.ErrCorrupt", Rows.laid_scrinium_api_ErrCorrupt), ("scrinium/api.ErrFuel", Rows.laid_scrinium_api_ErrFuel), ("scrinium/api.ErrState", Rows.laid_scrinium_api_ErrState), ("scrinium/api.ErrLong", Rows.laid_scrinium_api_ErrLong), ("scrinium/api.ErrTwice", Rows.laid_scrinium_api_ErrTwice)] [.sentinel, .sentinel, .sentinel, .sentinel, .sentinel, .sentinel, .sentinel, .sentinel, .sentinel] true :=
  Program.laidByTextLater_by_one 180 8 2 (by kernel_rfl) (by kernel_rfl) (by kernel_rfl) (by kernel_rfl) (by kernel_rfl) (by kernel_rfl) (fun _ _ => by kernel_rfl)
theorem noOwnUnsafe : Tryd.pinned.checked.prog.headLifts.contains "ownunsafe" = false := by kernel_rfl
theorem tie : Tryd.prog.laidByTextLater [("scrinium/api.ErrRange", Rows.laid_scrinium_api_ErrRange)] [.sentinel] true :=
  Program.laidByTextLater.sub seatTie1 ["scrinium/api.ErrRange"] (by kernel_rfl) (by kernel_rfl)
theorem fieldOrders_row_tie : Rows.fieldOrdersRow.laidByTextAt .later Tryd.pinned [.sentinel] true :=
  OpenClaim.laidByTextAt_later rfl rfl tie noOwnUnsafe
theorem tie2 : Tryd.prog.laidByTextLater [("scrinium/api.ErrForm", Rows.laid_scrinium_api_ErrForm), ("scrinium/api.ErrRange", Rows.laid_scrinium_api_ErrRange), ("scrinium/api.ErrLong", Rows.laid_scrinium_api_ErrLong)] [.sentinel, .sentinel, .sentinel] true :=
  Program.laidByTextLater.sub seatTie1 ["scrinium/api.ErrForm", "scrinium/api.ErrRange", "scrinium/api.ErrLong"] (by kernel_rfl) (by kernel_rfl)
theorem fieldBack_row_tie : Rows.fieldBackRow.laidByTextAt .later Tryd.pinned [.sentinel, .sentinel, .sentinel] true :=
  OpenClaim.laidByTextAt_later rfl rfl tie2 noOwnUnsafe
theorem tie3 : Tryd.prog.laidByTextLater [("scrinium/api.ErrForm", Rows.laid_scrinium_api_ErrForm), ("scrinium/api.ErrRange", Rows.laid_scrinium_api_ErrRange), ("scrinium/api.ErrFull", Rows.laid_scrinium_api_ErrFull), ("scrinium/api.ErrNone", Rows.laid_scrinium_api_ErrNone), ("scrinium/api.ErrCorrupt", Rows.laid_scrinium_api_ErrCorrupt), ("scrinium/api.ErrFuel", Rows.laid_scrinium_api_ErrFuel), ("scrinium/api.ErrState", Rows.laid_scrinium_api_ErrState), ("scrinium/api.ErrLong", Rows.laid_scrinium_api_ErrLong), ("scrinium/api.ErrTwice", Rows.laid_scrinium_api_ErrTwice)] [.sentinel, .sentinel, .sentinel, .sentinel, .sentinel, .sentinel, .sentinel, .sentinel, .sentinel] true :=
  Program.laidByTextLater.sub seatTie1 ["scrinium/api.ErrForm", "scrinium/api.ErrRange", "scrinium/api.ErrFull", "scrinium/api.ErrNone", "scrinium/api.ErrCorrupt", "scrinium/api.ErrFuel", "scrinium/api.ErrState", "scrinium/api.ErrLong", "scrinium/api.ErrTwice"] (by kernel_rfl) (by kernel_rfl)
theorem fieldPuts_row_tie : Rows.fieldPutsRow.laidByTextAt .later Tryd.pinned [.sentinel, .sentinel, .sentinel, .sentinel, .sentinel, .sentinel, .sentinel, .sentinel, .sentinel] true :=
  OpenClaim.laidByTextAt_later rfl rfl tie3 noOwnUnsafe
theorem fieldTakes_row_tie : Rows.fieldTakesRow.laidByTextAt .later Tryd.pinned [.sentinel, .sentinel, .sentinel, .sentinel, .sentinel, .sentinel, .sentinel, .sentinel, .sentinel] true :=
  OpenClaim.laidByTextAt_later rfl rfl tie3 noOwnUnsafe
theorem fieldTexts_row_tie : Rows.fieldTextsRow.laidByTextAt .later Tryd.pinned [.sentinel, .sentinel, .sentinel, .sentinel, .sentinel, .sentinel, .sentinel, .sentinel, .sentinel] true :=
  OpenClaim.laidByTextAt_later rfl rfl tie3 noOwnUnsafe
theorem fieldReads_row_tie : Rows.fieldReadsRow.laidByTextAt .later Tryd.pinned [.sentinel, .sentinel, .sentinel, .sentinel, .sentinel, .sentinel, .sentinel, .sentinel, .sentinel] true :=
  OpenClaim.laidByTextAt_later rfl rfl tie3 noOwnUnsafe
theorem fieldOrdersUpto_row_tie : Rows.fieldOrdersUptoRow.laidByTextAt .later Tryd.pinned [.sentinel] true :=
  OpenClaim.laidByTextAt_later rfl rfl tie noOwnUnsafe
theorem fieldBackUpto_row_tie : Rows.fieldBackUptoRow.laidByTextAt .later Tryd.pinned [.sentinel, .sentinel, .sentinel] true :=
  OpenClaim.laidByTextAt_later rfl rfl tie2 noOwnUnsafe
theorem fieldPutsUpto_row_tie : Rows.fieldPutsUptoRow.laidByTextAt .later Tryd.pinned [.sentinel, .sentinel, .sentinel, .sentinel, .sentinel, .sentinel, .sentinel, .sentinel, .sentinel] true :=
  OpenClaim.laidByTextAt_later rfl rfl tie3 noOwnUnsafe
theorem fieldTakesUpto_row_tie : Rows.fieldTakesUptoRow.laidByTextAt .later Tryd.pinned [.sentinel, .sentinel, .sentinel, .sentinel, .sentinel, .sentinel, .sentinel, .sentinel, .sentinel] true :=
  OpenClaim.laidByTextAt_later rfl rfl tie3 noOwnUnsafe
theorem fieldTextsUpto_row_tie : Rows.fieldTextsUptoRow.laidByTextAt .later Tryd.pinned [.sentinel, .sentinel, .sentinel, .sentinel, .sentinel, .sentinel, .sentinel, .sentinel, .sentinel] true :=
  OpenClaim.laidByTextAt_later rfl rfl tie3 noOwnUnsafe
theorem fieldReadsUpto_row_tie : Rows.fieldReadsUptoRow.laidByTextAt .later Tryd.pinned [.sentinel, .sentinel, .sentinel, .sentinel, .sentinel, .sentinel, .sentinel, .sentinel, .sentinel] true :=
  OpenClaim.laidByTextAt_later rfl rfl tie3 noOwnUnsafe
end Go.Proofs.YtnaepddnbnciaaaDoor
