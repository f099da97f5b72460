/-
  DERIVED. GIVEN WITH THE SEED: THE CARDS: each row of YtflbioiildndoaaDoorRows.lean that lists a variable, with what it lists TIED to the program's text (the seventh form; the later family's looks); each row that meets fmt, with fmt's text TOLD by the authors' own Lean function (tested against real Go, not proved from fmt's source: count such statements apart). THE CARD IS WHAT COUNTS. Prove the row's statement (the work); the ties are given (YtflbioiildndoaaDoorTie.lean); close each card by the builder's one call (the guide's Derived/Test/ToyasCard.lean, 'card_holds'). Laid BY PROGRAM, IN A SANDBOX (cutbox-door.mjs). By AI agents, Wed Nov 11 2026. No macro, syntax, notation, axiom, sorry.
-/
import Derived.Test.YtflbioiildndoaaDoorRows
import GoSem.ClaimSeven
namespace Go.Proofs.YtflbioiildndoaaDoor
namespace Rows

/-- THE TIED CARD OF 'scriniumlaw04.BlockNews'. -/
def blockNewsCard : Claim7 := { stood := { row := blockNewsRow, standIns := [], harness := (true, "1a5e408c970b692e1c4f493ec05b9859887749252c999f76a98d1c538f4f15b8"), looks := true }, kinds := [], alts := [], laidByText := true, laidKinds := [.sentinel, .sentinel, .sentinel, .sentinel, .sentinel, .sentinel, .sentinel, .sentinel, .sentinel], laidTests := true, laidLooks := .later }
def BlockNewsCardSaid : Prop := Claim7.holds Tryd.pinned (.plain (OpenSpec.ofChange blockNewsSpec)) blockNewsCard

/-- THE TIED CARD OF 'scriniumlaw04.BlockLasts'. -/
def blockLastsCard : Claim7 := { stood := { row := blockLastsRow, standIns := [], harness := (true, "1a5e408c970b692e1c4f493ec05b9859887749252c999f76a98d1c538f4f15b8"), looks := true }, kinds := [], alts := [], laidByText := true, laidKinds := [.sentinel, .sentinel, .sentinel, .sentinel, .sentinel, .sentinel, .sentinel, .sentinel, .sentinel], laidTests := true, laidLooks := .later }
def BlockLastsCardSaid : Prop := Claim7.holds Tryd.pinned (.plain (OpenSpec.ofChange blockLastsSpec)) blockLastsCard

/-- THE TIED CARD OF 'scriniumlaw04.BlockCrashes'. -/
def blockCrashesCard : Claim7 := { stood := { row := blockCrashesRow, standIns := [], harness := (true, "1a5e408c970b692e1c4f493ec05b9859887749252c999f76a98d1c538f4f15b8"), looks := true }, kinds := [], alts := [], laidByText := true, laidKinds := [.sentinel, .sentinel, .sentinel, .sentinel, .sentinel, .sentinel, .sentinel, .sentinel, .sentinel], laidTests := true, laidLooks := .later }
def BlockCrashesCardSaid : Prop := Claim7.holds Tryd.pinned (.plain (OpenSpec.ofChange blockCrashesSpec)) blockCrashesCard

/-- THE TIED CARD OF 'scriniumlaw04.BlockTwice'. -/
def blockTwiceCard : Claim7 := { stood := { row := blockTwiceRow, standIns := [], harness := (true, "1a5e408c970b692e1c4f493ec05b9859887749252c999f76a98d1c538f4f15b8"), looks := true }, kinds := [], alts := [], laidByText := true, laidKinds := [.sentinel, .sentinel, .sentinel, .sentinel, .sentinel, .sentinel, .sentinel, .sentinel, .sentinel], laidTests := true, laidLooks := .later }
def BlockTwiceCardSaid : Prop := Claim7.holds Tryd.pinned (.plain (OpenSpec.ofChange blockTwiceSpec)) blockTwiceCard

/-- THE TIED CARD OF 'scriniumlaw04.BlockFuses'. -/
def blockFusesCard : Claim7 := { stood := { row := blockFusesRow, standIns := [], harness := (true, "1a5e408c970b692e1c4f493ec05b9859887749252c999f76a98d1c538f4f15b8"), looks := true }, kinds := [], alts := [], laidByText := true, laidKinds := [.sentinel, .sentinel, .sentinel, .sentinel, .sentinel, .sentinel, .sentinel, .sentinel, .sentinel], laidTests := true, laidLooks := .later }
def BlockFusesCardSaid : Prop := Claim7.holds Tryd.pinned (.plain (OpenSpec.ofChange blockFusesSpec)) blockFusesCard

/-- THE TIED CARD OF 'scriniumlaw04.BlockNil'. -/
def blockNilCard : Claim7 := { stood := { row := blockNilRow, standIns := [], harness := (true, "1a5e408c970b692e1c4f493ec05b9859887749252c999f76a98d1c538f4f15b8"), looks := true }, kinds := [], alts := [], laidByText := true, laidKinds := [.sentinel, .sentinel, .sentinel, .sentinel, .sentinel, .sentinel, .sentinel, .sentinel, .sentinel], laidTests := true, laidLooks := .later }
def BlockNilCardSaid : Prop := Claim7.holds Tryd.pinned (.plain (OpenSpec.ofChange blockNilSpec)) blockNilCard

/-- THE TIED CARD OF 'scriniumlaw08.CacheKeeps'. -/
def cacheKeepsCard : Claim7 := { stood := { row := cacheKeepsRow, standIns := [], harness := (true, "1a5e408c970b692e1c4f493ec05b9859887749252c999f76a98d1c538f4f15b8"), looks := true }, kinds := [], alts := [], laidByText := true, laidKinds := [.sentinel, .sentinel, .sentinel, .sentinel, .sentinel], laidTests := true, laidLooks := .later }
def CacheKeepsCardSaid : Prop := Claim7.holds Tryd.pinned (.plain (OpenSpec.ofChange cacheKeepsSpec)) cacheKeepsCard

/-- THE TIED CARD OF 'scriniumlaw08.CachePins'. -/
def cachePinsCard : Claim7 := { stood := { row := cachePinsRow, standIns := [], harness := (true, "1a5e408c970b692e1c4f493ec05b9859887749252c999f76a98d1c538f4f15b8"), looks := true }, kinds := [], alts := [], laidByText := true, laidKinds := [.sentinel, .sentinel, .sentinel, .sentinel, .sentinel, .sentinel, .sentinel, .sentinel, .sentinel], laidTests := true, laidLooks := .later }
def CachePinsCardSaid : Prop := Claim7.holds Tryd.pinned (.plain (OpenSpec.ofChange cachePinsSpec)) cachePinsCard

/-- THE TIED CARD OF 'scriniumlaw08.CacheCorrupt'. -/
def cacheCorruptCard : Claim7 := { stood := { row := cacheCorruptRow, standIns := [], harness := (true, "1a5e408c970b692e1c4f493ec05b9859887749252c999f76a98d1c538f4f15b8"), looks := true }, kinds := [], alts := [], laidByText := true, laidKinds := [.sentinel, .sentinel, .sentinel, .sentinel, .sentinel, .sentinel, .sentinel, .sentinel, .sentinel], laidTests := true, laidLooks := .later }
def CacheCorruptCardSaid : Prop := Claim7.holds Tryd.pinned (.plain (OpenSpec.ofChange cacheCorruptSpec)) cacheCorruptCard

/-- THE TIED CARD OF 'scriniumlaw08.CacheNews'. -/
def cacheNewsCard : Claim7 := { stood := { row := cacheNewsRow, standIns := [], harness := (true, "1a5e408c970b692e1c4f493ec05b9859887749252c999f76a98d1c538f4f15b8"), looks := true }, kinds := [], alts := [], laidByText := true, laidKinds := [.sentinel, .sentinel, .sentinel, .sentinel, .sentinel, .sentinel, .sentinel, .sentinel, .sentinel], laidTests := true, laidLooks := .later }
def CacheNewsCardSaid : Prop := Claim7.holds Tryd.pinned (.plain (OpenSpec.ofChange cacheNewsSpec)) cacheNewsCard

/-- THE SECOND FORM's CARD OF 'scriniumlaw04.BlockNews'. -/
def blockNewsUptoCard : Claim7 := { stood := { row := blockNewsUptoRow, standIns := [], harness := (true, "1a5e408c970b692e1c4f493ec05b9859887749252c999f76a98d1c538f4f15b8"), looks := true }, kinds := [], alts := [], laidByText := true, laidKinds := [.sentinel, .sentinel, .sentinel, .sentinel, .sentinel, .sentinel, .sentinel, .sentinel, .sentinel], laidTests := true, laidLooks := .later }
def BlockNewsUptoCardSaid : Prop := Claim7.holds Tryd.pinned (.plain (OpenSpec.upto blockNewsSpec)) blockNewsUptoCard

/-- THE SECOND FORM's CARD OF 'scriniumlaw04.BlockLasts'. -/
def blockLastsUptoCard : Claim7 := { stood := { row := blockLastsUptoRow, standIns := [], harness := (true, "1a5e408c970b692e1c4f493ec05b9859887749252c999f76a98d1c538f4f15b8"), looks := true }, kinds := [], alts := [], laidByText := true, laidKinds := [.sentinel, .sentinel, .sentinel, .sentinel, .sentinel, .sentinel, .sentinel, .sentinel, .sentinel], laidTests := true, laidLooks := .later }
def BlockLastsUptoCardSaid : Prop := Claim7.holds Tryd.pinned (.plain (OpenSpec.upto blockLastsSpec)) blockLastsUptoCard

/-- THE SECOND FORM's CARD OF 'scriniumlaw04.BlockCrashes'. -/
def blockCrashesUptoCard : Claim7 := { stood := { row := blockCrashesUptoRow, standIns := [], harness := (true, "1a5e408c970b692e1c4f493ec05b9859887749252c999f76a98d1c538f4f15b8"), looks := true }, kinds := [], alts := [], laidByText := true, laidKinds := [.sentinel, .sentinel, .sentinel, .sentinel, .sentinel, .sentinel, .sentinel, .sentinel, .sentinel], laidTests := true, laidLooks := .later }
def BlockCrashesUptoCardSaid : Prop := Claim7.holds Tryd.pinned (.plain (OpenSpec.upto blockCrashesSpec)) blockCrashesUptoCard

/-- THE SECOND FORM's CARD OF 'scriniumlaw04.BlockTwice'. -/
def blockTwiceUptoCard : Claim7 := { stood := { row := blockTwiceUptoRow, standIns := [], harness := (true, "1a5e408c970b692e1c4f493ec05b9859887749252c999f76a98d1c538f4f15b8"), looks := true }, kinds := [], alts := [], laidByText := true, laidKinds := [.sentinel, .sentinel, .sentinel, .sentinel, .sentinel, .sentinel, .sentinel, .sentinel, .sentinel], laidTests := true, laidLooks := .later }
def BlockTwiceUptoCardSaid : Prop := Claim7.holds Tryd.pinned (.plain (OpenSpec.upto blockTwiceSpec)) blockTwiceUptoCard

/-- THE SECOND FORM's CARD OF 'scriniumlaw04.BlockFuses'. -/
def blockFusesUptoCard : Claim7 := { stood := { row := blockFusesUptoRow, standIns := [], harness := (true, "1a5e408c970b692e1c4f493ec05b9859887749252c999f76a98d1c538f4f15b8"), looks := true }, kinds := [], alts := [], laidByText := true, laidKinds := [.sentinel, .sentinel, .sentinel, .sentinel, .sentinel, .sentinel, .sentinel, .sentinel, .sentinel], laidTests := true, laidLooks := .later }
def BlockFusesUptoCardSaid : Prop := Claim7.holds Tryd.pinned (.plain (OpenSpec.upto blockFusesSpec)) blockFusesUptoCard

/-- THE SECOND FORM's CARD OF 'scriniumlaw04.BlockNil'. -/
def blockNilUptoCard : Claim7 := { stood := { row := blockNilUptoRow, standIns := [], harness := (true, "1a5e408c970b692e1c4f493ec05b9859887749252c999f76a98d1c538f4f15b8"), looks := true }, kinds := [], alts := [], laidByText := true, laidKinds := [.sentinel, .sentinel, .sentinel, .sentinel, .sentinel, .sentinel, .sentinel, .sentinel, .sentinel], laidTests := true, laidLooks := .later }
def BlockNilUptoCardSaid : Prop := Claim7.holds Tryd.pinned (.plain (OpenSpec.upto blockNilSpec)) blockNilUptoCard

/-- THE SECOND FORM's CARD OF 'scriniumlaw08.CacheKeeps'. -/
def cacheKeepsUptoCard : Claim7 := { stood := { row := cacheKeepsUptoRow, standIns := [], harness := (true, "1a5e408c970b692e1c4f493ec05b9859887749252c999f76a98d1c538f4f15b8"), looks := true }, kinds := [], alts := [], laidByText := true, laidKinds := [.sentinel, .sentinel, .sentinel, .sentinel, .sentinel], laidTests := true, laidLooks := .later }
def CacheKeepsUptoCardSaid : Prop := Claim7.holds Tryd.pinned (.plain (OpenSpec.upto cacheKeepsSpec)) cacheKeepsUptoCard

/-- THE SECOND FORM's CARD OF 'scriniumlaw08.CachePins'. -/
def cachePinsUptoCard : Claim7 := { stood := { row := cachePinsUptoRow, standIns := [], harness := (true, "1a5e408c970b692e1c4f493ec05b9859887749252c999f76a98d1c538f4f15b8"), looks := true }, kinds := [], alts := [], laidByText := true, laidKinds := [.sentinel, .sentinel, .sentinel, .sentinel, .sentinel, .sentinel, .sentinel, .sentinel, .sentinel], laidTests := true, laidLooks := .later }
def CachePinsUptoCardSaid : Prop := Claim7.holds Tryd.pinned (.plain (OpenSpec.upto cachePinsSpec)) cachePinsUptoCard

/-- THE SECOND FORM's CARD OF 'scriniumlaw08.CacheCorrupt'. -/
def cacheCorruptUptoCard : Claim7 := { stood := { row := cacheCorruptUptoRow, standIns := [], harness := (true, "1a5e408c970b692e1c4f493ec05b9859887749252c999f76a98d1c538f4f15b8"), looks := true }, kinds := [], alts := [], laidByText := true, laidKinds := [.sentinel, .sentinel, .sentinel, .sentinel, .sentinel, .sentinel, .sentinel, .sentinel, .sentinel], laidTests := true, laidLooks := .later }
def CacheCorruptUptoCardSaid : Prop := Claim7.holds Tryd.pinned (.plain (OpenSpec.upto cacheCorruptSpec)) cacheCorruptUptoCard

/-- THE SECOND FORM's CARD OF 'scriniumlaw08.CacheNews'. -/
def cacheNewsUptoCard : Claim7 := { stood := { row := cacheNewsUptoRow, standIns := [], harness := (true, "1a5e408c970b692e1c4f493ec05b9859887749252c999f76a98d1c538f4f15b8"), looks := true }, kinds := [], alts := [], laidByText := true, laidKinds := [.sentinel, .sentinel, .sentinel, .sentinel, .sentinel, .sentinel, .sentinel, .sentinel, .sentinel], laidTests := true, laidLooks := .later }
def CacheNewsUptoCardSaid : Prop := Claim7.holds Tryd.pinned (.plain (OpenSpec.upto cacheNewsSpec)) cacheNewsUptoCard
end Rows
end Go.Proofs.YtflbioiildndoaaDoor
