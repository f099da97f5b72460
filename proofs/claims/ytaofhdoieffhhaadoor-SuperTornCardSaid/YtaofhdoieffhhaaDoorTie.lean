/-
  DERIVED. GIVEN WITH THE SEED: THE PROGRAM's TIES (one call each: nine closed facts by the kernel) AND EACH ROW's TIE, after the 31st guide's Derived/Test/Toyas{Tie, Card}.lean. No idea stands in it: it is a product of the set-up. Laid BY PROGRAM, IN A SANDBOX (cutbox-door.mjs). By AI agents, Wed Nov 11 2026. No macro, syntax, notation, axiom, sorry.
-/
import Derived.Test.YtaofhdoieffhhaaDoorRows
import Derived.LaidByTextLater
import Derived.SevenTiedAt
import Derived.LaidSub
import Derived.LaidOnce
namespace Go.Proofs.YtaofhdoieffhhaaDoor
open Go
set_option maxRecDepth 100000
theorem seatTie1 : Tryd.prog.laidByTextLater [("errors.errorType", Rows.laid_errors_errorType), ("scrinium/api.ErrForm", Rows.laid_scrinium_api_ErrForm), ("scrinium/api.ErrRange", Rows.laid_scrinium_api_ErrRange), ("scrinium/api.ErrFull", Rows.laid_scrinium_api_ErrFull), ("scrinium/api.ErrNone", Rows.laid_scrinium_api_ErrNone), ("scrinium/api.ErrCorrupt", Rows.laid_scrinium_api_ErrCorrupt), ("scrinium/api.ErrFuel", Rows.laid_scrinium_api_ErrFuel), ("scrinium/api.ErrState", Rows.laid_scrinium_api_ErrState), ("scrinium/api.ErrLong", Rows.laid_scrinium_api_ErrLong), ("scrinium/api.ErrTwice", Rows.laid_scrinium_api_ErrTwice)] [.handle, .sentinel, .sentinel, .sentinel, .sentinel, .sentinel, .sentinel, .sentinel, .sentinel, .sentinel] true :=
  Program.laidByTextLater_by_one 187 8 2 (by kernel_rfl) (by kernel_rfl) (by kernel_rfl) (by kernel_rfl) (by kernel_rfl) (by kernel_rfl) (fun _ _ => by kernel_rfl)
theorem noOwnUnsafe : Tryd.pinned.checked.prog.headLifts.contains "ownunsafe" = false := by kernel_rfl
theorem tie : Tryd.prog.laidByTextLater [("scrinium/api.ErrForm", Rows.laid_scrinium_api_ErrForm), ("scrinium/api.ErrRange", Rows.laid_scrinium_api_ErrRange), ("scrinium/api.ErrCorrupt", Rows.laid_scrinium_api_ErrCorrupt)] [.sentinel, .sentinel, .sentinel] true :=
  Program.laidByTextLater.sub seatTie1 ["scrinium/api.ErrForm", "scrinium/api.ErrRange", "scrinium/api.ErrCorrupt"] (by kernel_rfl) (by kernel_rfl)
theorem pageBack_row_tie : Rows.pageBackRow.laidByTextAt .later Tryd.pinned [.sentinel, .sentinel, .sentinel] true :=
  OpenClaim.laidByTextAt_later rfl rfl tie noOwnUnsafe
theorem pageSames_row_tie : Rows.pageSamesRow.laidByTextAt .later Tryd.pinned [.sentinel, .sentinel, .sentinel] true :=
  OpenClaim.laidByTextAt_later rfl rfl tie noOwnUnsafe
theorem superTorn_row_tie : Rows.superTornRow.laidByTextAt .later Tryd.pinned [.sentinel, .sentinel, .sentinel] true :=
  OpenClaim.laidByTextAt_later rfl rfl tie noOwnUnsafe
theorem tie2 : Tryd.prog.laidByTextLater [("scrinium/api.ErrForm", Rows.laid_scrinium_api_ErrForm), ("scrinium/api.ErrRange", Rows.laid_scrinium_api_ErrRange), ("scrinium/api.ErrFull", Rows.laid_scrinium_api_ErrFull), ("scrinium/api.ErrNone", Rows.laid_scrinium_api_ErrNone), ("scrinium/api.ErrCorrupt", Rows.laid_scrinium_api_ErrCorrupt), ("scrinium/api.ErrFuel", Rows.laid_scrinium_api_ErrFuel), ("scrinium/api.ErrState", Rows.laid_scrinium_api_ErrState), ("scrinium/api.ErrLong", Rows.laid_scrinium_api_ErrLong), ("scrinium/api.ErrTwice", Rows.laid_scrinium_api_ErrTwice)] [.sentinel, .sentinel, .sentinel, .sentinel, .sentinel, .sentinel, .sentinel, .sentinel, .sentinel] true :=
  Program.laidByTextLater.sub seatTie1 ["scrinium/api.ErrForm", "scrinium/api.ErrRange", "scrinium/api.ErrFull", "scrinium/api.ErrNone", "scrinium/api.ErrCorrupt", "scrinium/api.ErrFuel", "scrinium/api.ErrState", "scrinium/api.ErrLong", "scrinium/api.ErrTwice"] (by kernel_rfl) (by kernel_rfl)
theorem pageSeals_row_tie : Rows.pageSealsRow.laidByTextAt .later Tryd.pinned [.sentinel, .sentinel, .sentinel, .sentinel, .sentinel, .sentinel, .sentinel, .sentinel, .sentinel] true :=
  OpenClaim.laidByTextAt_later rfl rfl tie2 noOwnUnsafe
theorem pageBursts_row_tie : Rows.pageBurstsRow.laidByTextAt .later Tryd.pinned [.sentinel, .sentinel, .sentinel, .sentinel, .sentinel, .sentinel, .sentinel, .sentinel, .sentinel] true :=
  OpenClaim.laidByTextAt_later rfl rfl tie2 noOwnUnsafe
theorem superSeals_row_tie : Rows.superSealsRow.laidByTextAt .later Tryd.pinned [.sentinel, .sentinel, .sentinel, .sentinel, .sentinel, .sentinel, .sentinel, .sentinel, .sentinel] true :=
  OpenClaim.laidByTextAt_later rfl rfl tie2 noOwnUnsafe
theorem superBack_row_tie : Rows.superBackRow.laidByTextAt .later Tryd.pinned [.sentinel, .sentinel, .sentinel, .sentinel, .sentinel, .sentinel, .sentinel, .sentinel, .sentinel] true :=
  OpenClaim.laidByTextAt_later rfl rfl tie2 noOwnUnsafe
theorem tie3 : Tryd.prog.laidByTextLater [("errors.errorType", Rows.laid_errors_errorType), ("scrinium/api.ErrForm", Rows.laid_scrinium_api_ErrForm), ("scrinium/api.ErrRange", Rows.laid_scrinium_api_ErrRange), ("scrinium/api.ErrFull", Rows.laid_scrinium_api_ErrFull), ("scrinium/api.ErrNone", Rows.laid_scrinium_api_ErrNone), ("scrinium/api.ErrCorrupt", Rows.laid_scrinium_api_ErrCorrupt), ("scrinium/api.ErrFuel", Rows.laid_scrinium_api_ErrFuel), ("scrinium/api.ErrState", Rows.laid_scrinium_api_ErrState), ("scrinium/api.ErrLong", Rows.laid_scrinium_api_ErrLong), ("scrinium/api.ErrTwice", Rows.laid_scrinium_api_ErrTwice)] [.handle, .sentinel, .sentinel, .sentinel, .sentinel, .sentinel, .sentinel, .sentinel, .sentinel, .sentinel] true :=
  Program.laidByTextLater.sub seatTie1 ["errors.errorType", "scrinium/api.ErrForm", "scrinium/api.ErrRange", "scrinium/api.ErrFull", "scrinium/api.ErrNone", "scrinium/api.ErrCorrupt", "scrinium/api.ErrFuel", "scrinium/api.ErrState", "scrinium/api.ErrLong", "scrinium/api.ErrTwice"] (by kernel_rfl) (by kernel_rfl)
theorem pageOpens_row_tie : Rows.pageOpensRow.laidByTextAt .later Tryd.pinned [.handle, .sentinel, .sentinel, .sentinel, .sentinel, .sentinel, .sentinel, .sentinel, .sentinel, .sentinel] true :=
  OpenClaim.laidByTextAt_later rfl rfl tie3 noOwnUnsafe
theorem pagePlaces_row_tie : Rows.pagePlacesRow.laidByTextAt .later Tryd.pinned [.handle, .sentinel, .sentinel, .sentinel, .sentinel, .sentinel, .sentinel, .sentinel, .sentinel, .sentinel] true :=
  OpenClaim.laidByTextAt_later rfl rfl tie3 noOwnUnsafe
theorem superOpens_row_tie : Rows.superOpensRow.laidByTextAt .later Tryd.pinned [.handle, .sentinel, .sentinel, .sentinel, .sentinel, .sentinel, .sentinel, .sentinel, .sentinel, .sentinel] true :=
  OpenClaim.laidByTextAt_later rfl rfl tie3 noOwnUnsafe
theorem superChooses_row_tie : Rows.superChoosesRow.laidByTextAt .later Tryd.pinned [.handle, .sentinel, .sentinel, .sentinel, .sentinel, .sentinel, .sentinel, .sentinel, .sentinel, .sentinel] true :=
  OpenClaim.laidByTextAt_later rfl rfl tie3 noOwnUnsafe
theorem pageBackUpto_row_tie : Rows.pageBackUptoRow.laidByTextAt .later Tryd.pinned [.sentinel, .sentinel, .sentinel] true :=
  OpenClaim.laidByTextAt_later rfl rfl tie noOwnUnsafe
theorem pageSamesUpto_row_tie : Rows.pageSamesUptoRow.laidByTextAt .later Tryd.pinned [.sentinel, .sentinel, .sentinel] true :=
  OpenClaim.laidByTextAt_later rfl rfl tie noOwnUnsafe
theorem pageSealsUpto_row_tie : Rows.pageSealsUptoRow.laidByTextAt .later Tryd.pinned [.sentinel, .sentinel, .sentinel, .sentinel, .sentinel, .sentinel, .sentinel, .sentinel, .sentinel] true :=
  OpenClaim.laidByTextAt_later rfl rfl tie2 noOwnUnsafe
theorem pageBurstsUpto_row_tie : Rows.pageBurstsUptoRow.laidByTextAt .later Tryd.pinned [.sentinel, .sentinel, .sentinel, .sentinel, .sentinel, .sentinel, .sentinel, .sentinel, .sentinel] true :=
  OpenClaim.laidByTextAt_later rfl rfl tie2 noOwnUnsafe
theorem superTornUpto_row_tie : Rows.superTornUptoRow.laidByTextAt .later Tryd.pinned [.sentinel, .sentinel, .sentinel] true :=
  OpenClaim.laidByTextAt_later rfl rfl tie noOwnUnsafe
theorem superSealsUpto_row_tie : Rows.superSealsUptoRow.laidByTextAt .later Tryd.pinned [.sentinel, .sentinel, .sentinel, .sentinel, .sentinel, .sentinel, .sentinel, .sentinel, .sentinel] true :=
  OpenClaim.laidByTextAt_later rfl rfl tie2 noOwnUnsafe
theorem superBackUpto_row_tie : Rows.superBackUptoRow.laidByTextAt .later Tryd.pinned [.sentinel, .sentinel, .sentinel, .sentinel, .sentinel, .sentinel, .sentinel, .sentinel, .sentinel] true :=
  OpenClaim.laidByTextAt_later rfl rfl tie2 noOwnUnsafe
theorem pageOpensUpto_row_tie : Rows.pageOpensUptoRow.laidByTextAt .later Tryd.pinned [.handle, .sentinel, .sentinel, .sentinel, .sentinel, .sentinel, .sentinel, .sentinel, .sentinel, .sentinel] true :=
  OpenClaim.laidByTextAt_later rfl rfl tie3 noOwnUnsafe
theorem pagePlacesUpto_row_tie : Rows.pagePlacesUptoRow.laidByTextAt .later Tryd.pinned [.handle, .sentinel, .sentinel, .sentinel, .sentinel, .sentinel, .sentinel, .sentinel, .sentinel, .sentinel] true :=
  OpenClaim.laidByTextAt_later rfl rfl tie3 noOwnUnsafe
theorem superOpensUpto_row_tie : Rows.superOpensUptoRow.laidByTextAt .later Tryd.pinned [.handle, .sentinel, .sentinel, .sentinel, .sentinel, .sentinel, .sentinel, .sentinel, .sentinel, .sentinel] true :=
  OpenClaim.laidByTextAt_later rfl rfl tie3 noOwnUnsafe
theorem superChoosesUpto_row_tie : Rows.superChoosesUptoRow.laidByTextAt .later Tryd.pinned [.handle, .sentinel, .sentinel, .sentinel, .sentinel, .sentinel, .sentinel, .sentinel, .sentinel, .sentinel] true :=
  OpenClaim.laidByTextAt_later rfl rfl tie3 noOwnUnsafe
end Go.Proofs.YtaofhdoieffhhaaDoor
