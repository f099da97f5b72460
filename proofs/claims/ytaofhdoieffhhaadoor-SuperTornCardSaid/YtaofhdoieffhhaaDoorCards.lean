/-
  DERIVED. GIVEN WITH THE SEED: THE CARDS: each row of YtaofhdoieffhhaaDoorRows.lean that lists a variable, with what it lists TIED to the program's text (the seventh form; the later family's looks); each row that meets fmt, with fmt's text TOLD by the authors' own Lean function (tested against real Go, not proved from fmt's source: count such statements apart). THE CARD IS WHAT COUNTS. Prove the row's statement (the work); the ties are given (YtaofhdoieffhhaaDoorTie.lean); close each card by the builder's one call (the guide's Derived/Test/ToyasCard.lean, 'card_holds'). Laid BY PROGRAM, IN A SANDBOX (cutbox-door.mjs). By AI agents, Wed Nov 11 2026. No macro, syntax, notation, axiom, sorry.
-/
import Derived.Test.YtaofhdoieffhhaaDoorRows
import GoSem.ClaimSeven
namespace Go.Proofs.YtaofhdoieffhhaaDoor
namespace Rows

/-- THE TIED CARD OF 'scriniumlaw05.PageBack'. -/
def pageBackCard : Claim7 := { stood := { row := pageBackRow, standIns := [], harness := (true, "dea7ecfef1d765f53687a35705028c5cf1ef3915f9b007f50089f4d87b538eb9"), looks := true }, kinds := [], alts := [], laidByText := true, laidKinds := [.sentinel, .sentinel, .sentinel], laidTests := true, laidLooks := .later }
def PageBackCardSaid : Prop := Claim7.holds Tryd.pinned (.plain (OpenSpec.ofChange pageBackSpec)) pageBackCard

/-- THE TIED CARD OF 'scriniumlaw05.PageSames'. -/
def pageSamesCard : Claim7 := { stood := { row := pageSamesRow, standIns := [], harness := (true, "dea7ecfef1d765f53687a35705028c5cf1ef3915f9b007f50089f4d87b538eb9"), looks := true }, kinds := [], alts := [], laidByText := true, laidKinds := [.sentinel, .sentinel, .sentinel], laidTests := true, laidLooks := .later }
def PageSamesCardSaid : Prop := Claim7.holds Tryd.pinned (.plain (OpenSpec.ofChange pageSamesSpec)) pageSamesCard

/-- THE TIED CARD OF 'scriniumlaw05.PageSeals'. -/
def pageSealsCard : Claim7 := { stood := { row := pageSealsRow, standIns := [], harness := (true, "dea7ecfef1d765f53687a35705028c5cf1ef3915f9b007f50089f4d87b538eb9"), looks := true }, kinds := [], alts := [], laidByText := true, laidKinds := [.sentinel, .sentinel, .sentinel, .sentinel, .sentinel, .sentinel, .sentinel, .sentinel, .sentinel], laidTests := true, laidLooks := .later }
def PageSealsCardSaid : Prop := Claim7.holds Tryd.pinned (.plain (OpenSpec.ofChange pageSealsSpec)) pageSealsCard

/-- THE TIED CARD OF 'scriniumlaw05.PageBursts'. -/
def pageBurstsCard : Claim7 := { stood := { row := pageBurstsRow, standIns := [], harness := (true, "dea7ecfef1d765f53687a35705028c5cf1ef3915f9b007f50089f4d87b538eb9"), looks := true }, kinds := [], alts := [], laidByText := true, laidKinds := [.sentinel, .sentinel, .sentinel, .sentinel, .sentinel, .sentinel, .sentinel, .sentinel, .sentinel], laidTests := true, laidLooks := .later }
def PageBurstsCardSaid : Prop := Claim7.holds Tryd.pinned (.plain (OpenSpec.ofChange pageBurstsSpec)) pageBurstsCard

/-- THE TIED CARD OF 'scriniumlaw06.SuperTorn'. -/
def superTornCard : Claim7 := { stood := { row := superTornRow, standIns := [], harness := (true, "dea7ecfef1d765f53687a35705028c5cf1ef3915f9b007f50089f4d87b538eb9"), looks := true }, kinds := [], alts := [], laidByText := true, laidKinds := [.sentinel, .sentinel, .sentinel], laidTests := true, laidLooks := .later }
def SuperTornCardSaid : Prop := Claim7.holds Tryd.pinned (.plain (OpenSpec.ofChange superTornSpec)) superTornCard

/-- THE TIED CARD OF 'scriniumlaw06.SuperSeals'. -/
def superSealsCard : Claim7 := { stood := { row := superSealsRow, standIns := [], harness := (true, "dea7ecfef1d765f53687a35705028c5cf1ef3915f9b007f50089f4d87b538eb9"), looks := true }, kinds := [], alts := [], laidByText := true, laidKinds := [.sentinel, .sentinel, .sentinel, .sentinel, .sentinel, .sentinel, .sentinel, .sentinel, .sentinel], laidTests := true, laidLooks := .later }
def SuperSealsCardSaid : Prop := Claim7.holds Tryd.pinned (.plain (OpenSpec.ofChange superSealsSpec)) superSealsCard

/-- THE TIED CARD OF 'scriniumlaw06.SuperBack'. -/
def superBackCard : Claim7 := { stood := { row := superBackRow, standIns := [], harness := (true, "dea7ecfef1d765f53687a35705028c5cf1ef3915f9b007f50089f4d87b538eb9"), looks := true }, kinds := [], alts := [], laidByText := true, laidKinds := [.sentinel, .sentinel, .sentinel, .sentinel, .sentinel, .sentinel, .sentinel, .sentinel, .sentinel], laidTests := true, laidLooks := .later }
def SuperBackCardSaid : Prop := Claim7.holds Tryd.pinned (.plain (OpenSpec.ofChange superBackSpec)) superBackCard

/-- THE TIED CARD OF 'scriniumlaw05.PageOpens'. -/
def pageOpensCard : Claim7 := { stood := { row := pageOpensRow, standIns := [], harness := (true, "dea7ecfef1d765f53687a35705028c5cf1ef3915f9b007f50089f4d87b538eb9"), looks := true }, kinds := [], alts := [], laidByText := true, laidKinds := [.handle, .sentinel, .sentinel, .sentinel, .sentinel, .sentinel, .sentinel, .sentinel, .sentinel, .sentinel], laidTests := true, laidLooks := .later }
def PageOpensCardSaid : Prop := Claim7.holds Tryd.pinned (.plain (OpenSpec.ofChange pageOpensSpec)) pageOpensCard

/-- THE TIED CARD OF 'scriniumlaw05.PagePlaces'. -/
def pagePlacesCard : Claim7 := { stood := { row := pagePlacesRow, standIns := [], harness := (true, "dea7ecfef1d765f53687a35705028c5cf1ef3915f9b007f50089f4d87b538eb9"), looks := true }, kinds := [], alts := [], laidByText := true, laidKinds := [.handle, .sentinel, .sentinel, .sentinel, .sentinel, .sentinel, .sentinel, .sentinel, .sentinel, .sentinel], laidTests := true, laidLooks := .later }
def PagePlacesCardSaid : Prop := Claim7.holds Tryd.pinned (.plain (OpenSpec.ofChange pagePlacesSpec)) pagePlacesCard

/-- THE TIED CARD OF 'scriniumlaw06.SuperOpens'. -/
def superOpensCard : Claim7 := { stood := { row := superOpensRow, standIns := [], harness := (true, "dea7ecfef1d765f53687a35705028c5cf1ef3915f9b007f50089f4d87b538eb9"), looks := true }, kinds := [], alts := [], laidByText := true, laidKinds := [.handle, .sentinel, .sentinel, .sentinel, .sentinel, .sentinel, .sentinel, .sentinel, .sentinel, .sentinel], laidTests := true, laidLooks := .later }
def SuperOpensCardSaid : Prop := Claim7.holds Tryd.pinned (.plain (OpenSpec.ofChange superOpensSpec)) superOpensCard

/-- THE TIED CARD OF 'scriniumlaw06.SuperChooses'. -/
def superChoosesCard : Claim7 := { stood := { row := superChoosesRow, standIns := [], harness := (true, "dea7ecfef1d765f53687a35705028c5cf1ef3915f9b007f50089f4d87b538eb9"), looks := true }, kinds := [], alts := [], laidByText := true, laidKinds := [.handle, .sentinel, .sentinel, .sentinel, .sentinel, .sentinel, .sentinel, .sentinel, .sentinel, .sentinel], laidTests := true, laidLooks := .later }
def SuperChoosesCardSaid : Prop := Claim7.holds Tryd.pinned (.plain (OpenSpec.ofChange superChoosesSpec)) superChoosesCard

/-- THE SECOND FORM's CARD OF 'scriniumlaw05.PageBack'. -/
def pageBackUptoCard : Claim7 := { stood := { row := pageBackUptoRow, standIns := [], harness := (true, "dea7ecfef1d765f53687a35705028c5cf1ef3915f9b007f50089f4d87b538eb9"), looks := true }, kinds := [], alts := [], laidByText := true, laidKinds := [.sentinel, .sentinel, .sentinel], laidTests := true, laidLooks := .later }
def PageBackUptoCardSaid : Prop := Claim7.holds Tryd.pinned (.plain (OpenSpec.upto pageBackSpec)) pageBackUptoCard

/-- THE SECOND FORM's CARD OF 'scriniumlaw05.PageSames'. -/
def pageSamesUptoCard : Claim7 := { stood := { row := pageSamesUptoRow, standIns := [], harness := (true, "dea7ecfef1d765f53687a35705028c5cf1ef3915f9b007f50089f4d87b538eb9"), looks := true }, kinds := [], alts := [], laidByText := true, laidKinds := [.sentinel, .sentinel, .sentinel], laidTests := true, laidLooks := .later }
def PageSamesUptoCardSaid : Prop := Claim7.holds Tryd.pinned (.plain (OpenSpec.upto pageSamesSpec)) pageSamesUptoCard

/-- THE SECOND FORM's CARD OF 'scriniumlaw05.PageSeals'. -/
def pageSealsUptoCard : Claim7 := { stood := { row := pageSealsUptoRow, standIns := [], harness := (true, "dea7ecfef1d765f53687a35705028c5cf1ef3915f9b007f50089f4d87b538eb9"), looks := true }, kinds := [], alts := [], laidByText := true, laidKinds := [.sentinel, .sentinel, .sentinel, .sentinel, .sentinel, .sentinel, .sentinel, .sentinel, .sentinel], laidTests := true, laidLooks := .later }
def PageSealsUptoCardSaid : Prop := Claim7.holds Tryd.pinned (.plain (OpenSpec.upto pageSealsSpec)) pageSealsUptoCard

/-- THE SECOND FORM's CARD OF 'scriniumlaw05.PageBursts'. -/
def pageBurstsUptoCard : Claim7 := { stood := { row := pageBurstsUptoRow, standIns := [], harness := (true, "dea7ecfef1d765f53687a35705028c5cf1ef3915f9b007f50089f4d87b538eb9"), looks := true }, kinds := [], alts := [], laidByText := true, laidKinds := [.sentinel, .sentinel, .sentinel, .sentinel, .sentinel, .sentinel, .sentinel, .sentinel, .sentinel], laidTests := true, laidLooks := .later }
def PageBurstsUptoCardSaid : Prop := Claim7.holds Tryd.pinned (.plain (OpenSpec.upto pageBurstsSpec)) pageBurstsUptoCard

/-- THE SECOND FORM's CARD OF 'scriniumlaw06.SuperTorn'. -/
def superTornUptoCard : Claim7 := { stood := { row := superTornUptoRow, standIns := [], harness := (true, "dea7ecfef1d765f53687a35705028c5cf1ef3915f9b007f50089f4d87b538eb9"), looks := true }, kinds := [], alts := [], laidByText := true, laidKinds := [.sentinel, .sentinel, .sentinel], laidTests := true, laidLooks := .later }
def SuperTornUptoCardSaid : Prop := Claim7.holds Tryd.pinned (.plain (OpenSpec.upto superTornSpec)) superTornUptoCard

/-- THE SECOND FORM's CARD OF 'scriniumlaw06.SuperSeals'. -/
def superSealsUptoCard : Claim7 := { stood := { row := superSealsUptoRow, standIns := [], harness := (true, "dea7ecfef1d765f53687a35705028c5cf1ef3915f9b007f50089f4d87b538eb9"), looks := true }, kinds := [], alts := [], laidByText := true, laidKinds := [.sentinel, .sentinel, .sentinel, .sentinel, .sentinel, .sentinel, .sentinel, .sentinel, .sentinel], laidTests := true, laidLooks := .later }
def SuperSealsUptoCardSaid : Prop := Claim7.holds Tryd.pinned (.plain (OpenSpec.upto superSealsSpec)) superSealsUptoCard

/-- THE SECOND FORM's CARD OF 'scriniumlaw06.SuperBack'. -/
def superBackUptoCard : Claim7 := { stood := { row := superBackUptoRow, standIns := [], harness := (true, "dea7ecfef1d765f53687a35705028c5cf1ef3915f9b007f50089f4d87b538eb9"), looks := true }, kinds := [], alts := [], laidByText := true, laidKinds := [.sentinel, .sentinel, .sentinel, .sentinel, .sentinel, .sentinel, .sentinel, .sentinel, .sentinel], laidTests := true, laidLooks := .later }
def SuperBackUptoCardSaid : Prop := Claim7.holds Tryd.pinned (.plain (OpenSpec.upto superBackSpec)) superBackUptoCard

/-- THE SECOND FORM's CARD OF 'scriniumlaw05.PageOpens'. -/
def pageOpensUptoCard : Claim7 := { stood := { row := pageOpensUptoRow, standIns := [], harness := (true, "dea7ecfef1d765f53687a35705028c5cf1ef3915f9b007f50089f4d87b538eb9"), looks := true }, kinds := [], alts := [], laidByText := true, laidKinds := [.handle, .sentinel, .sentinel, .sentinel, .sentinel, .sentinel, .sentinel, .sentinel, .sentinel, .sentinel], laidTests := true, laidLooks := .later }
def PageOpensUptoCardSaid : Prop := Claim7.holds Tryd.pinned (.plain (OpenSpec.upto pageOpensSpec)) pageOpensUptoCard

/-- THE SECOND FORM's CARD OF 'scriniumlaw05.PagePlaces'. -/
def pagePlacesUptoCard : Claim7 := { stood := { row := pagePlacesUptoRow, standIns := [], harness := (true, "dea7ecfef1d765f53687a35705028c5cf1ef3915f9b007f50089f4d87b538eb9"), looks := true }, kinds := [], alts := [], laidByText := true, laidKinds := [.handle, .sentinel, .sentinel, .sentinel, .sentinel, .sentinel, .sentinel, .sentinel, .sentinel, .sentinel], laidTests := true, laidLooks := .later }
def PagePlacesUptoCardSaid : Prop := Claim7.holds Tryd.pinned (.plain (OpenSpec.upto pagePlacesSpec)) pagePlacesUptoCard

/-- THE SECOND FORM's CARD OF 'scriniumlaw06.SuperOpens'. -/
def superOpensUptoCard : Claim7 := { stood := { row := superOpensUptoRow, standIns := [], harness := (true, "dea7ecfef1d765f53687a35705028c5cf1ef3915f9b007f50089f4d87b538eb9"), looks := true }, kinds := [], alts := [], laidByText := true, laidKinds := [.handle, .sentinel, .sentinel, .sentinel, .sentinel, .sentinel, .sentinel, .sentinel, .sentinel, .sentinel], laidTests := true, laidLooks := .later }
def SuperOpensUptoCardSaid : Prop := Claim7.holds Tryd.pinned (.plain (OpenSpec.upto superOpensSpec)) superOpensUptoCard

/-- THE SECOND FORM's CARD OF 'scriniumlaw06.SuperChooses'. -/
def superChoosesUptoCard : Claim7 := { stood := { row := superChoosesUptoRow, standIns := [], harness := (true, "dea7ecfef1d765f53687a35705028c5cf1ef3915f9b007f50089f4d87b538eb9"), looks := true }, kinds := [], alts := [], laidByText := true, laidKinds := [.handle, .sentinel, .sentinel, .sentinel, .sentinel, .sentinel, .sentinel, .sentinel, .sentinel, .sentinel], laidTests := true, laidLooks := .later }
def SuperChoosesUptoCardSaid : Prop := Claim7.holds Tryd.pinned (.plain (OpenSpec.upto superChoosesSpec)) superChoosesUptoCard
end Rows
end Go.Proofs.YtaofhdoieffhhaaDoor
