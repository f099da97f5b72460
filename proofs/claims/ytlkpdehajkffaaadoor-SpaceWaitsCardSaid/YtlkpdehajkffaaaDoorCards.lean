/-
  DERIVED. GIVEN WITH THE SEED: THE CARDS: each row of YtlkpdehajkffaaaDoorRows.lean that lists a variable, with what it lists TIED to the program's text (the seventh form; the later family's looks); each row that meets fmt, with fmt's text TOLD by the authors' own Lean function (tested against real Go, not proved from fmt's source: count such statements apart). THE CARD IS WHAT COUNTS. Prove the row's statement (the work); the ties are given (YtlkpdehajkffaaaDoorTie.lean); close each card by the builder's one call (the guide's Derived/Test/ToyasCard.lean, 'card_holds'). Laid BY PROGRAM, IN A SANDBOX (cutbox-door.mjs). By AI agents, Wed Nov 11 2026. No macro, syntax, notation, axiom, sorry.
-/
import Derived.Test.YtlkpdehajkffaaaDoorRows
import GoSem.ClaimSeven
namespace Go.Proofs.YtlkpdehajkffaaaDoor
namespace Rows

/-- THE TIED CARD OF 'scriniumlaw09.SpaceNews'. -/
def spaceNewsCard : Claim7 := { stood := { row := spaceNewsRow, standIns := [], harness := (true, "d977cfae8e16845141b9fc89d7b3f1e589e3378deae0db22d696cf2dba80e11a"), looks := true }, kinds := [], alts := [], laidByText := true, laidKinds := [.sentinel, .sentinel, .sentinel, .sentinel, .sentinel, .sentinel, .sentinel, .sentinel, .sentinel], laidTests := true, laidLooks := .later }
def SpaceNewsCardSaid : Prop := Claim7.holds Tryd.pinned (.plain (OpenSpec.ofChange spaceNewsSpec)) spaceNewsCard

/-- THE TIED CARD OF 'scriniumlaw09.SpaceWaits'. -/
def spaceWaitsCard : Claim7 := { stood := { row := spaceWaitsRow, standIns := [], harness := (true, "d977cfae8e16845141b9fc89d7b3f1e589e3378deae0db22d696cf2dba80e11a"), looks := true }, kinds := [], alts := [], laidByText := true, laidKinds := [.sentinel, .sentinel, .sentinel, .sentinel, .sentinel, .sentinel, .sentinel, .sentinel, .sentinel], laidTests := true, laidLooks := .later }
def SpaceWaitsCardSaid : Prop := Claim7.holds Tryd.pinned (.plain (OpenSpec.ofChange spaceWaitsSpec)) spaceWaitsCard

/-- THE TIED CARD OF 'scriniumlaw09.SpacePlays'. -/
def spacePlaysCard : Claim7 := { stood := { row := spacePlaysRow, standIns := [], harness := (true, "d977cfae8e16845141b9fc89d7b3f1e589e3378deae0db22d696cf2dba80e11a"), looks := true }, kinds := [], alts := [], laidByText := true, laidKinds := [.sentinel, .sentinel, .sentinel, .sentinel, .sentinel, .sentinel, .sentinel, .sentinel, .sentinel], laidTests := true, laidLooks := .later }
def SpacePlaysCardSaid : Prop := Claim7.holds Tryd.pinned (.plain (OpenSpec.ofChange spacePlaysSpec)) spacePlaysCard

/-- THE TIED CARD OF 'scriniumlaw09.SpaceBack'. -/
def spaceBackCard : Claim7 := { stood := { row := spaceBackRow, standIns := [], harness := (true, "d977cfae8e16845141b9fc89d7b3f1e589e3378deae0db22d696cf2dba80e11a"), looks := true }, kinds := [], alts := [], laidByText := true, laidKinds := [.sentinel, .sentinel, .sentinel, .sentinel, .sentinel, .sentinel, .sentinel, .sentinel, .sentinel], laidTests := true, laidLooks := .later }
def SpaceBackCardSaid : Prop := Claim7.holds Tryd.pinned (.plain (OpenSpec.ofChange spaceBackSpec)) spaceBackCard

/-- THE TIED CARD OF 'scriniumlaw09.SpaceWhole'. -/
def spaceWholeCard : Claim7 := { stood := { row := spaceWholeRow, standIns := [], harness := (true, "d977cfae8e16845141b9fc89d7b3f1e589e3378deae0db22d696cf2dba80e11a"), looks := true }, kinds := [], alts := [], laidByText := true, laidKinds := [.sentinel, .sentinel, .sentinel, .sentinel, .sentinel, .sentinel, .sentinel, .sentinel, .sentinel], laidTests := true, laidLooks := .later }
def SpaceWholeCardSaid : Prop := Claim7.holds Tryd.pinned (.plain (OpenSpec.ofChange spaceWholeSpec)) spaceWholeCard

/-- THE TIED CARD OF 'scriniumlaw09.SpaceNil'. -/
def spaceNilCard : Claim7 := { stood := { row := spaceNilRow, standIns := [], harness := (true, "d977cfae8e16845141b9fc89d7b3f1e589e3378deae0db22d696cf2dba80e11a"), looks := true }, kinds := [], alts := [], laidByText := true, laidKinds := [.sentinel, .sentinel, .sentinel, .sentinel, .sentinel, .sentinel, .sentinel, .sentinel, .sentinel], laidTests := true, laidLooks := .later }
def SpaceNilCardSaid : Prop := Claim7.holds Tryd.pinned (.plain (OpenSpec.ofChange spaceNilSpec)) spaceNilCard

/-- THE SECOND FORM's CARD OF 'scriniumlaw09.SpaceNews'. -/
def spaceNewsUptoCard : Claim7 := { stood := { row := spaceNewsUptoRow, standIns := [], harness := (true, "d977cfae8e16845141b9fc89d7b3f1e589e3378deae0db22d696cf2dba80e11a"), looks := true }, kinds := [], alts := [], laidByText := true, laidKinds := [.sentinel, .sentinel, .sentinel, .sentinel, .sentinel, .sentinel, .sentinel, .sentinel, .sentinel], laidTests := true, laidLooks := .later }
def SpaceNewsUptoCardSaid : Prop := Claim7.holds Tryd.pinned (.plain (OpenSpec.upto spaceNewsSpec)) spaceNewsUptoCard

/-- THE SECOND FORM's CARD OF 'scriniumlaw09.SpaceWaits'. -/
def spaceWaitsUptoCard : Claim7 := { stood := { row := spaceWaitsUptoRow, standIns := [], harness := (true, "d977cfae8e16845141b9fc89d7b3f1e589e3378deae0db22d696cf2dba80e11a"), looks := true }, kinds := [], alts := [], laidByText := true, laidKinds := [.sentinel, .sentinel, .sentinel, .sentinel, .sentinel, .sentinel, .sentinel, .sentinel, .sentinel], laidTests := true, laidLooks := .later }
def SpaceWaitsUptoCardSaid : Prop := Claim7.holds Tryd.pinned (.plain (OpenSpec.upto spaceWaitsSpec)) spaceWaitsUptoCard

/-- THE SECOND FORM's CARD OF 'scriniumlaw09.SpacePlays'. -/
def spacePlaysUptoCard : Claim7 := { stood := { row := spacePlaysUptoRow, standIns := [], harness := (true, "d977cfae8e16845141b9fc89d7b3f1e589e3378deae0db22d696cf2dba80e11a"), looks := true }, kinds := [], alts := [], laidByText := true, laidKinds := [.sentinel, .sentinel, .sentinel, .sentinel, .sentinel, .sentinel, .sentinel, .sentinel, .sentinel], laidTests := true, laidLooks := .later }
def SpacePlaysUptoCardSaid : Prop := Claim7.holds Tryd.pinned (.plain (OpenSpec.upto spacePlaysSpec)) spacePlaysUptoCard

/-- THE SECOND FORM's CARD OF 'scriniumlaw09.SpaceBack'. -/
def spaceBackUptoCard : Claim7 := { stood := { row := spaceBackUptoRow, standIns := [], harness := (true, "d977cfae8e16845141b9fc89d7b3f1e589e3378deae0db22d696cf2dba80e11a"), looks := true }, kinds := [], alts := [], laidByText := true, laidKinds := [.sentinel, .sentinel, .sentinel, .sentinel, .sentinel, .sentinel, .sentinel, .sentinel, .sentinel], laidTests := true, laidLooks := .later }
def SpaceBackUptoCardSaid : Prop := Claim7.holds Tryd.pinned (.plain (OpenSpec.upto spaceBackSpec)) spaceBackUptoCard

/-- THE SECOND FORM's CARD OF 'scriniumlaw09.SpaceWhole'. -/
def spaceWholeUptoCard : Claim7 := { stood := { row := spaceWholeUptoRow, standIns := [], harness := (true, "d977cfae8e16845141b9fc89d7b3f1e589e3378deae0db22d696cf2dba80e11a"), looks := true }, kinds := [], alts := [], laidByText := true, laidKinds := [.sentinel, .sentinel, .sentinel, .sentinel, .sentinel, .sentinel, .sentinel, .sentinel, .sentinel], laidTests := true, laidLooks := .later }
def SpaceWholeUptoCardSaid : Prop := Claim7.holds Tryd.pinned (.plain (OpenSpec.upto spaceWholeSpec)) spaceWholeUptoCard

/-- THE SECOND FORM's CARD OF 'scriniumlaw09.SpaceNil'. -/
def spaceNilUptoCard : Claim7 := { stood := { row := spaceNilUptoRow, standIns := [], harness := (true, "d977cfae8e16845141b9fc89d7b3f1e589e3378deae0db22d696cf2dba80e11a"), looks := true }, kinds := [], alts := [], laidByText := true, laidKinds := [.sentinel, .sentinel, .sentinel, .sentinel, .sentinel, .sentinel, .sentinel, .sentinel, .sentinel], laidTests := true, laidLooks := .later }
def SpaceNilUptoCardSaid : Prop := Claim7.holds Tryd.pinned (.plain (OpenSpec.upto spaceNilSpec)) spaceNilUptoCard
end Rows
end Go.Proofs.YtlkpdehajkffaaaDoor
