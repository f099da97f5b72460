/-
  DERIVED. GIVEN WITH THE SEED: THE CARDS: each row of YtlobelfnjabajaaDoorRows.lean that lists a variable, with what it lists TIED to the program's text (the seventh form; the later family's looks); each row that meets fmt, with fmt's text TOLD by the authors' own Lean function (tested against real Go, not proved from fmt's source: count such statements apart). THE CARD IS WHAT COUNTS. Prove the row's statement (the work); the ties are given (YtlobelfnjabajaaDoorTie.lean); close each card by the builder's one call (the guide's Derived/Test/ToyasCard.lean, 'card_holds'). Laid BY PROGRAM, IN A SANDBOX (cutbox-door.mjs). By AI agents, Wed Nov 11 2026. No macro, syntax, notation, axiom, sorry.
-/
import Derived.Test.YtlobelfnjabajaaDoorRows
import GoSem.ClaimSeven
namespace Go.Proofs.YtlobelfnjabajaaDoor
namespace Rows

/-- THE TIED CARD OF 'scriniumlaw07.NodeBack'. -/
def nodeBackCard : Claim7 := { stood := { row := nodeBackRow, standIns := [], harness := (true, "9ceda3846dcbf08149de8bc2cf98eb2e990d70b65ff12a321746485cfb608d55"), looks := true }, kinds := [], alts := [], laidByText := true, laidKinds := [.sentinel, .sentinel], laidTests := true, laidLooks := .later }
def NodeBackCardSaid : Prop := Claim7.holds Tryd.pinned (.plain (OpenSpec.ofChange nodeBackSpec)) nodeBackCard

/-- THE TIED CARD OF 'scriniumlaw07.NodeSames'. -/
def nodeSamesCard : Claim7 := { stood := { row := nodeSamesRow, standIns := [], harness := (true, "9ceda3846dcbf08149de8bc2cf98eb2e990d70b65ff12a321746485cfb608d55"), looks := true }, kinds := [], alts := [], laidByText := true, laidKinds := [.sentinel, .sentinel], laidTests := true, laidLooks := .later }
def NodeSamesCardSaid : Prop := Claim7.holds Tryd.pinned (.plain (OpenSpec.ofChange nodeSamesSpec)) nodeSamesCard

/-- THE TIED CARD OF 'scriniumlaw07.NodeFinds'. -/
def nodeFindsCard : Claim7 := { stood := { row := nodeFindsRow, standIns := [], harness := (true, "9ceda3846dcbf08149de8bc2cf98eb2e990d70b65ff12a321746485cfb608d55"), looks := true }, kinds := [], alts := [], laidByText := true, laidKinds := [.sentinel, .sentinel], laidTests := true, laidLooks := .later }
def NodeFindsCardSaid : Prop := Claim7.holds Tryd.pinned (.plain (OpenSpec.ofChange nodeFindsSpec)) nodeFindsCard

/-- THE TIED CARD OF 'scriniumlaw07.NodeWeighs'. -/
def nodeWeighsCard : Claim7 := { stood := { row := nodeWeighsRow, standIns := [], harness := (true, "9ceda3846dcbf08149de8bc2cf98eb2e990d70b65ff12a321746485cfb608d55"), looks := true }, kinds := [], alts := [], laidByText := true, laidKinds := [.sentinel, .sentinel], laidTests := true, laidLooks := .later }
def NodeWeighsCardSaid : Prop := Claim7.holds Tryd.pinned (.plain (OpenSpec.ofChange nodeWeighsSpec)) nodeWeighsCard

/-- THE TIED CARD OF 'scriniumlaw16.BitmapMirrors'. -/
def bitmapMirrorsCard : Claim7 := { stood := { row := bitmapMirrorsRow, standIns := [], harness := (true, "9ceda3846dcbf08149de8bc2cf98eb2e990d70b65ff12a321746485cfb608d55"), looks := true }, kinds := [], alts := [], laidByText := true, laidKinds := [.sentinel, .sentinel, .sentinel], laidTests := true, laidLooks := .later }
def BitmapMirrorsCardSaid : Prop := Claim7.holds Tryd.pinned (.plain (OpenSpec.ofChange bitmapMirrorsSpec)) bitmapMirrorsCard

/-- THE TIED CARD OF 'scriniumlaw07.NodeGets'. -/
def nodeGetsCard : Claim7 := { stood := { row := nodeGetsRow, standIns := [], harness := (true, "9ceda3846dcbf08149de8bc2cf98eb2e990d70b65ff12a321746485cfb608d55"), looks := true }, kinds := [], alts := [], laidByText := true, laidKinds := [.sentinel, .sentinel, .sentinel, .sentinel, .sentinel, .sentinel, .sentinel, .sentinel, .sentinel], laidTests := true, laidLooks := .later }
def NodeGetsCardSaid : Prop := Claim7.holds Tryd.pinned (.plain (OpenSpec.ofChange nodeGetsSpec)) nodeGetsCard

/-- THE TIED CARD OF 'scriniumlaw07.NodePuts'. -/
def nodePutsCard : Claim7 := { stood := { row := nodePutsRow, standIns := [], harness := (true, "9ceda3846dcbf08149de8bc2cf98eb2e990d70b65ff12a321746485cfb608d55"), looks := true }, kinds := [], alts := [], laidByText := true, laidKinds := [.sentinel, .sentinel, .sentinel, .sentinel, .sentinel, .sentinel, .sentinel, .sentinel, .sentinel], laidTests := true, laidLooks := .later }
def NodePutsCardSaid : Prop := Claim7.holds Tryd.pinned (.plain (OpenSpec.ofChange nodePutsSpec)) nodePutsCard

/-- THE TIED CARD OF 'scriniumlaw16.BitmapSeals'. -/
def bitmapSealsCard : Claim7 := { stood := { row := bitmapSealsRow, standIns := [], harness := (true, "9ceda3846dcbf08149de8bc2cf98eb2e990d70b65ff12a321746485cfb608d55"), looks := true }, kinds := [], alts := [], laidByText := true, laidKinds := [.sentinel, .sentinel, .sentinel, .sentinel, .sentinel, .sentinel, .sentinel, .sentinel, .sentinel], laidTests := true, laidLooks := .later }
def BitmapSealsCardSaid : Prop := Claim7.holds Tryd.pinned (.plain (OpenSpec.ofChange bitmapSealsSpec)) bitmapSealsCard

/-- THE TIED CARD OF 'scriniumlaw16.BitmapBack'. -/
def bitmapBackCard : Claim7 := { stood := { row := bitmapBackRow, standIns := [], harness := (true, "9ceda3846dcbf08149de8bc2cf98eb2e990d70b65ff12a321746485cfb608d55"), looks := true }, kinds := [], alts := [], laidByText := true, laidKinds := [.sentinel, .sentinel, .sentinel, .sentinel, .sentinel, .sentinel, .sentinel, .sentinel, .sentinel], laidTests := true, laidLooks := .later }
def BitmapBackCardSaid : Prop := Claim7.holds Tryd.pinned (.plain (OpenSpec.ofChange bitmapBackSpec)) bitmapBackCard

/-- THE TIED CARD OF 'scriniumlaw16.BitmapOpens'. -/
def bitmapOpensCard : Claim7 := { stood := { row := bitmapOpensRow, standIns := [], harness := (true, "9ceda3846dcbf08149de8bc2cf98eb2e990d70b65ff12a321746485cfb608d55"), looks := true }, kinds := [], alts := [], laidByText := true, laidKinds := [.handle, .sentinel, .sentinel, .sentinel, .sentinel, .sentinel, .sentinel, .sentinel, .sentinel, .sentinel], laidTests := true, laidLooks := .later }
def BitmapOpensCardSaid : Prop := Claim7.holds Tryd.pinned (.plain (OpenSpec.ofChange bitmapOpensSpec)) bitmapOpensCard

/-- THE TIED CARD OF 'scriniumlaw16.BitmapChooses'. -/
def bitmapChoosesCard : Claim7 := { stood := { row := bitmapChoosesRow, standIns := [], harness := (true, "9ceda3846dcbf08149de8bc2cf98eb2e990d70b65ff12a321746485cfb608d55"), looks := true }, kinds := [], alts := [], laidByText := true, laidKinds := [.handle, .sentinel, .sentinel, .sentinel, .sentinel, .sentinel, .sentinel, .sentinel, .sentinel, .sentinel], laidTests := true, laidLooks := .later }
def BitmapChoosesCardSaid : Prop := Claim7.holds Tryd.pinned (.plain (OpenSpec.ofChange bitmapChoosesSpec)) bitmapChoosesCard

/-- THE SECOND FORM's CARD OF 'scriniumlaw07.NodeBack'. -/
def nodeBackUptoCard : Claim7 := { stood := { row := nodeBackUptoRow, standIns := [], harness := (true, "9ceda3846dcbf08149de8bc2cf98eb2e990d70b65ff12a321746485cfb608d55"), looks := true }, kinds := [], alts := [], laidByText := true, laidKinds := [.sentinel, .sentinel], laidTests := true, laidLooks := .later }
def NodeBackUptoCardSaid : Prop := Claim7.holds Tryd.pinned (.plain (OpenSpec.upto nodeBackSpec)) nodeBackUptoCard

/-- THE SECOND FORM's CARD OF 'scriniumlaw07.NodeSames'. -/
def nodeSamesUptoCard : Claim7 := { stood := { row := nodeSamesUptoRow, standIns := [], harness := (true, "9ceda3846dcbf08149de8bc2cf98eb2e990d70b65ff12a321746485cfb608d55"), looks := true }, kinds := [], alts := [], laidByText := true, laidKinds := [.sentinel, .sentinel], laidTests := true, laidLooks := .later }
def NodeSamesUptoCardSaid : Prop := Claim7.holds Tryd.pinned (.plain (OpenSpec.upto nodeSamesSpec)) nodeSamesUptoCard

/-- THE SECOND FORM's CARD OF 'scriniumlaw07.NodeFinds'. -/
def nodeFindsUptoCard : Claim7 := { stood := { row := nodeFindsUptoRow, standIns := [], harness := (true, "9ceda3846dcbf08149de8bc2cf98eb2e990d70b65ff12a321746485cfb608d55"), looks := true }, kinds := [], alts := [], laidByText := true, laidKinds := [.sentinel, .sentinel], laidTests := true, laidLooks := .later }
def NodeFindsUptoCardSaid : Prop := Claim7.holds Tryd.pinned (.plain (OpenSpec.upto nodeFindsSpec)) nodeFindsUptoCard

/-- THE SECOND FORM's CARD OF 'scriniumlaw07.NodeWeighs'. -/
def nodeWeighsUptoCard : Claim7 := { stood := { row := nodeWeighsUptoRow, standIns := [], harness := (true, "9ceda3846dcbf08149de8bc2cf98eb2e990d70b65ff12a321746485cfb608d55"), looks := true }, kinds := [], alts := [], laidByText := true, laidKinds := [.sentinel, .sentinel], laidTests := true, laidLooks := .later }
def NodeWeighsUptoCardSaid : Prop := Claim7.holds Tryd.pinned (.plain (OpenSpec.upto nodeWeighsSpec)) nodeWeighsUptoCard

/-- THE SECOND FORM's CARD OF 'scriniumlaw16.BitmapMirrors'. -/
def bitmapMirrorsUptoCard : Claim7 := { stood := { row := bitmapMirrorsUptoRow, standIns := [], harness := (true, "9ceda3846dcbf08149de8bc2cf98eb2e990d70b65ff12a321746485cfb608d55"), looks := true }, kinds := [], alts := [], laidByText := true, laidKinds := [.sentinel, .sentinel, .sentinel], laidTests := true, laidLooks := .later }
def BitmapMirrorsUptoCardSaid : Prop := Claim7.holds Tryd.pinned (.plain (OpenSpec.upto bitmapMirrorsSpec)) bitmapMirrorsUptoCard

/-- THE SECOND FORM's CARD OF 'scriniumlaw07.NodeGets'. -/
def nodeGetsUptoCard : Claim7 := { stood := { row := nodeGetsUptoRow, standIns := [], harness := (true, "9ceda3846dcbf08149de8bc2cf98eb2e990d70b65ff12a321746485cfb608d55"), looks := true }, kinds := [], alts := [], laidByText := true, laidKinds := [.sentinel, .sentinel, .sentinel, .sentinel, .sentinel, .sentinel, .sentinel, .sentinel, .sentinel], laidTests := true, laidLooks := .later }
def NodeGetsUptoCardSaid : Prop := Claim7.holds Tryd.pinned (.plain (OpenSpec.upto nodeGetsSpec)) nodeGetsUptoCard

/-- THE SECOND FORM's CARD OF 'scriniumlaw07.NodePuts'. -/
def nodePutsUptoCard : Claim7 := { stood := { row := nodePutsUptoRow, standIns := [], harness := (true, "9ceda3846dcbf08149de8bc2cf98eb2e990d70b65ff12a321746485cfb608d55"), looks := true }, kinds := [], alts := [], laidByText := true, laidKinds := [.sentinel, .sentinel, .sentinel, .sentinel, .sentinel, .sentinel, .sentinel, .sentinel, .sentinel], laidTests := true, laidLooks := .later }
def NodePutsUptoCardSaid : Prop := Claim7.holds Tryd.pinned (.plain (OpenSpec.upto nodePutsSpec)) nodePutsUptoCard

/-- THE SECOND FORM's CARD OF 'scriniumlaw16.BitmapSeals'. -/
def bitmapSealsUptoCard : Claim7 := { stood := { row := bitmapSealsUptoRow, standIns := [], harness := (true, "9ceda3846dcbf08149de8bc2cf98eb2e990d70b65ff12a321746485cfb608d55"), looks := true }, kinds := [], alts := [], laidByText := true, laidKinds := [.sentinel, .sentinel, .sentinel, .sentinel, .sentinel, .sentinel, .sentinel, .sentinel, .sentinel], laidTests := true, laidLooks := .later }
def BitmapSealsUptoCardSaid : Prop := Claim7.holds Tryd.pinned (.plain (OpenSpec.upto bitmapSealsSpec)) bitmapSealsUptoCard

/-- THE SECOND FORM's CARD OF 'scriniumlaw16.BitmapBack'. -/
def bitmapBackUptoCard : Claim7 := { stood := { row := bitmapBackUptoRow, standIns := [], harness := (true, "9ceda3846dcbf08149de8bc2cf98eb2e990d70b65ff12a321746485cfb608d55"), looks := true }, kinds := [], alts := [], laidByText := true, laidKinds := [.sentinel, .sentinel, .sentinel, .sentinel, .sentinel, .sentinel, .sentinel, .sentinel, .sentinel], laidTests := true, laidLooks := .later }
def BitmapBackUptoCardSaid : Prop := Claim7.holds Tryd.pinned (.plain (OpenSpec.upto bitmapBackSpec)) bitmapBackUptoCard

/-- THE SECOND FORM's CARD OF 'scriniumlaw16.BitmapOpens'. -/
def bitmapOpensUptoCard : Claim7 := { stood := { row := bitmapOpensUptoRow, standIns := [], harness := (true, "9ceda3846dcbf08149de8bc2cf98eb2e990d70b65ff12a321746485cfb608d55"), looks := true }, kinds := [], alts := [], laidByText := true, laidKinds := [.handle, .sentinel, .sentinel, .sentinel, .sentinel, .sentinel, .sentinel, .sentinel, .sentinel, .sentinel], laidTests := true, laidLooks := .later }
def BitmapOpensUptoCardSaid : Prop := Claim7.holds Tryd.pinned (.plain (OpenSpec.upto bitmapOpensSpec)) bitmapOpensUptoCard

/-- THE SECOND FORM's CARD OF 'scriniumlaw16.BitmapChooses'. -/
def bitmapChoosesUptoCard : Claim7 := { stood := { row := bitmapChoosesUptoRow, standIns := [], harness := (true, "9ceda3846dcbf08149de8bc2cf98eb2e990d70b65ff12a321746485cfb608d55"), looks := true }, kinds := [], alts := [], laidByText := true, laidKinds := [.handle, .sentinel, .sentinel, .sentinel, .sentinel, .sentinel, .sentinel, .sentinel, .sentinel, .sentinel], laidTests := true, laidLooks := .later }
def BitmapChoosesUptoCardSaid : Prop := Claim7.holds Tryd.pinned (.plain (OpenSpec.upto bitmapChoosesSpec)) bitmapChoosesUptoCard
end Rows
end Go.Proofs.YtlobelfnjabajaaDoor
