/-
  DERIVED. GIVEN WITH THE SEED: THE CARDS: each row of YtflbioiildndoaaGreatDoorRows.lean that lists a variable, with what it lists TIED to the program's text (the seventh form; the later family's looks); each row that meets fmt, with fmt's text TOLD by the authors' own Lean function (tested against real Go, not proved from fmt's source: count such statements apart). THE CARD IS WHAT COUNTS. Prove the row's statement (the work); the ties are given (YtflbioiildndoaaGreatDoorTie.lean); close each card by the builder's one call (the guide's Derived/Test/ToyasCard.lean, 'card_holds'). Laid BY PROGRAM, IN A SANDBOX (cutbox-door.mjs). By AI agents, Wed Nov 11 2026. No macro, syntax, notation, axiom, sorry.
-/
import Derived.Test.YtflbioiildndoaaGreatDoorRows
import GoSem.ClaimSeven
namespace Go.Proofs.YtflbioiildndoaaGreatDoor
namespace Rows

/-- THE TIED CARD OF 'scriniumlaw08.CacheWrites'. -/
def cacheWritesCard : Claim7 := { stood := { row := cacheWritesRow, standIns := [], harness := (true, "afe471f614c9a48e39c39aadeeec02d8ac6f0cd5dbbb493b0069ce3ff723a03e"), looks := true }, kinds := [], alts := [], laidByText := true, laidKinds := [.sentinel, .sentinel, .sentinel, .sentinel, .sentinel, .sentinel, .sentinel, .sentinel, .sentinel], laidTests := true, laidLooks := .later }
def CacheWritesCardSaid : Prop := Claim7.holds Tryz.pinned (.plain (OpenSpec.ofChange cacheWritesSpec)) cacheWritesCard

/-- THE TIED CARD OF 'scriniumlaw08.CachePlays'. -/
def cachePlaysCard : Claim7 := { stood := { row := cachePlaysRow, standIns := [], harness := (true, "afe471f614c9a48e39c39aadeeec02d8ac6f0cd5dbbb493b0069ce3ff723a03e"), looks := true }, kinds := [], alts := [], laidByText := true, laidKinds := [.sentinel, .sentinel, .sentinel, .sentinel, .sentinel, .sentinel, .sentinel, .sentinel, .sentinel], laidTests := true, laidLooks := .later }
def CachePlaysCardSaid : Prop := Claim7.holds Tryz.pinned (.plain (OpenSpec.ofChange cachePlaysSpec)) cachePlaysCard

/-- THE SECOND FORM's CARD OF 'scriniumlaw08.CacheWrites'. -/
def cacheWritesUptoCard : Claim7 := { stood := { row := cacheWritesUptoRow, standIns := [], harness := (true, "afe471f614c9a48e39c39aadeeec02d8ac6f0cd5dbbb493b0069ce3ff723a03e"), looks := true }, kinds := [], alts := [], laidByText := true, laidKinds := [.sentinel, .sentinel, .sentinel, .sentinel, .sentinel, .sentinel, .sentinel, .sentinel, .sentinel], laidTests := true, laidLooks := .later }
def CacheWritesUptoCardSaid : Prop := Claim7.holds Tryz.pinned (.plain (OpenSpec.upto cacheWritesSpec)) cacheWritesUptoCard

/-- THE SECOND FORM's CARD OF 'scriniumlaw08.CachePlays'. -/
def cachePlaysUptoCard : Claim7 := { stood := { row := cachePlaysUptoRow, standIns := [], harness := (true, "afe471f614c9a48e39c39aadeeec02d8ac6f0cd5dbbb493b0069ce3ff723a03e"), looks := true }, kinds := [], alts := [], laidByText := true, laidKinds := [.sentinel, .sentinel, .sentinel, .sentinel, .sentinel, .sentinel, .sentinel, .sentinel, .sentinel], laidTests := true, laidLooks := .later }
def CachePlaysUptoCardSaid : Prop := Claim7.holds Tryz.pinned (.plain (OpenSpec.upto cachePlaysSpec)) cachePlaysUptoCard
end Rows
end Go.Proofs.YtflbioiildndoaaGreatDoor
