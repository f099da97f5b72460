/-
  NARROWER THAN 'FOR EVERY INPUT', by the rows' own cells (each row's printed sentence says how): NodeBack: laid · NodeSames: laid · NodeFinds: laid · NodeWeighs: laid · BitmapMirrors: laid · NodeGets: laid · NodePuts: laid · BitmapSeals: laid · BitmapBack: laid · BitmapOpens: laid · BitmapChooses: laid.
  DERIVED. THE GIVEN ROWS OF THIS SEAT. 11 by the template 'for every input the law returns true; each argument reads behind the call as it read before'; 0 by the template 'total and deterministic' (their statements: YtlobelfnjabajaaDoorTotals.lean).
  GIVEN WITH THE SEED: the statements are not yours to turn. If you find one false, say at which input.
  Laid BY PROGRAM, IN A SANDBOX (cutbox-rows.mjs): the forced cells as the released guide's own fill.sh prints them over the translation 3a967bc8a24d4657… (all of the seat's roots in one cut). By AI agents, Wed Nov 11 2026. No macro, syntax, notation, axiom, sorry.
-/
import Derived.Test.YtlobelfnjabajaaDoorChecked
import GoSem.Claim
import GoSem.ClaimJoined
import GoSem.ClaimMapViews
import Derived.JoinedTies
import Derived.KernelRfl
namespace Go.Proofs.YtlobelfnjabajaaDoor
/- THE CELL 'sum', in the pinned program and in every row, IS THE sha256 OF THE DUMP (.gsa) THAT YtlobelfnjabajaaDoorProg.lean LOADS. Nothing in Lean hashes anything: it is a label: what it is worth is what the hold of that sum in a sandbox is worth. -/
noncomputable def Tryd.pinned : Pinned := { name := "ytlobelfnjabajaadoor", sum := "3a967bc8a24d46574d3820f61cb6301d3d2142caab6ff0d8feacd553e0649835", checked := Tryd.checked }
namespace Rows
def none {H : Type} : Left H := { results := [], args := [] }

/- WHAT THE LISTED PACKAGE-LEVEL VARIABLES READ AS WHEN THE CALL BEGINS. Each datum BY PROGRAM (the guide's laid-datum.mjs) off the statement by which the dump's own 'gosem.cut.vars' lays the variable. In a bare row this is a premise. The card (YtlobelfnjabajaaDoorCards.lean) ties it to the program's text. -/
def laid_scrinium_api_ErrForm {H : Type} : DataW H := .iface "*errors.errorString" (.ptr (.agg [.lit (.string [102, 111, 114, 109])]))
def laid_scrinium_api_ErrRange {H : Type} : DataW H := .iface "*errors.errorString" (.ptr (.agg [.lit (.string [114, 97, 110, 103, 101])]))
def laid_scrinium_api_ErrCorrupt {H : Type} : DataW H := .iface "*errors.errorString" (.ptr (.agg [.lit (.string [99, 111, 114, 114, 117, 112, 116])]))
def laid_scrinium_api_ErrFull {H : Type} : DataW H := .iface "*errors.errorString" (.ptr (.agg [.lit (.string [102, 117, 108, 108])]))
def laid_scrinium_api_ErrNone {H : Type} : DataW H := .iface "*errors.errorString" (.ptr (.agg [.lit (.string [110, 111, 110, 101])]))
def laid_scrinium_api_ErrFuel {H : Type} : DataW H := .iface "*errors.errorString" (.ptr (.agg [.lit (.string [102, 117, 101, 108])]))
def laid_scrinium_api_ErrState {H : Type} : DataW H := .iface "*errors.errorString" (.ptr (.agg [.lit (.string [115, 116, 97, 116, 101])]))
def laid_scrinium_api_ErrLong {H : Type} : DataW H := .iface "*errors.errorString" (.ptr (.agg [.lit (.string [108, 111, 110, 103])]))
def laid_scrinium_api_ErrTwice {H : Type} : DataW H := .iface "*errors.errorString" (.ptr (.agg [.lit (.string [116, 119, 105, 99, 101])]))
def laid_errors_errorType {H : Type} : DataW H := .iface "internal/reflectlite.rtype" (.agg [.ptr (.lit (.string [101, 114, 114, 111, 114]))])

/-- 'scriniumlaw07.NodeBack': WHATEVER THE INPUT: true; the input reads as it did. -/
def nodeBackSpec : ChangeSpec := { name := "nodeBack", fn := fun _ => fun
  | [d1, d2, d3] => { results := [.lit (.bool true)], args := [d1, d2, d3] }
  | _ => none }
def nodeBackRow : OpenClaim := { program := "ytlobelfnjabajaadoor", sum := "3a967bc8a24d46574d3820f61cb6301d3d2142caab6ff0d8feacd553e0649835", func := "scrinium/scriniumlaw07.NodeBack", spec := "nodeBack", unfollowed := true, recurses := true, named := ["scrinium/api.ErrForm", "scrinium/api.ErrRange"], apart := false, laid := [("scrinium/api.ErrForm", laid_scrinium_api_ErrForm), ("scrinium/api.ErrRange", laid_scrinium_api_ErrRange)] }
def NodeBackSaid : Prop := nodeBackRow.holds Tryd.pinned (OpenSpec.ofChange nodeBackSpec)

/-- ITS FALSE NEIGHBOUR: 'it returns false'. Refute it at one input. -/
def nodeBackWrong : ChangeSpec := { name := "nodeBack", fn := fun _ => fun
  | [d1, d2, d3] => { results := [.lit (.bool false)], args := [d1, d2, d3] }
  | _ => none }
def NodeBackWrongFalsely : Prop := nodeBackRow.holds Tryd.pinned (OpenSpec.ofChange nodeBackWrong)

/-- 'scriniumlaw07.NodeSames': WHATEVER THE INPUT: true; the input reads as it did. -/
def nodeSamesSpec : ChangeSpec := { name := "nodeSames", fn := fun _ => fun
  | [d1, d2] => { results := [.lit (.bool true)], args := [d1, d2] }
  | _ => none }
def nodeSamesRow : OpenClaim := { program := "ytlobelfnjabajaadoor", sum := "3a967bc8a24d46574d3820f61cb6301d3d2142caab6ff0d8feacd553e0649835", func := "scrinium/scriniumlaw07.NodeSames", spec := "nodeSames", unfollowed := true, recurses := true, named := ["scrinium/api.ErrForm", "scrinium/api.ErrRange"], apart := false, laid := [("scrinium/api.ErrForm", laid_scrinium_api_ErrForm), ("scrinium/api.ErrRange", laid_scrinium_api_ErrRange)] }
def NodeSamesSaid : Prop := nodeSamesRow.holds Tryd.pinned (OpenSpec.ofChange nodeSamesSpec)

/-- ITS FALSE NEIGHBOUR: 'it returns false'. Refute it at one input. -/
def nodeSamesWrong : ChangeSpec := { name := "nodeSames", fn := fun _ => fun
  | [d1, d2] => { results := [.lit (.bool false)], args := [d1, d2] }
  | _ => none }
def NodeSamesWrongFalsely : Prop := nodeSamesRow.holds Tryd.pinned (OpenSpec.ofChange nodeSamesWrong)

/-- 'scriniumlaw07.NodeFinds': WHATEVER THE INPUT: true; the input reads as it did. -/
def nodeFindsSpec : ChangeSpec := { name := "nodeFinds", fn := fun _ => fun
  | [d1, d2] => { results := [.lit (.bool true)], args := [d1, d2] }
  | _ => none }
def nodeFindsRow : OpenClaim := { program := "ytlobelfnjabajaadoor", sum := "3a967bc8a24d46574d3820f61cb6301d3d2142caab6ff0d8feacd553e0649835", func := "scrinium/scriniumlaw07.NodeFinds", spec := "nodeFinds", unfollowed := true, recurses := true, named := ["scrinium/api.ErrForm", "scrinium/api.ErrRange"], apart := false, laid := [("scrinium/api.ErrForm", laid_scrinium_api_ErrForm), ("scrinium/api.ErrRange", laid_scrinium_api_ErrRange)] }
def NodeFindsSaid : Prop := nodeFindsRow.holds Tryd.pinned (OpenSpec.ofChange nodeFindsSpec)

/-- ITS FALSE NEIGHBOUR: 'it returns false'. Refute it at one input. -/
def nodeFindsWrong : ChangeSpec := { name := "nodeFinds", fn := fun _ => fun
  | [d1, d2] => { results := [.lit (.bool false)], args := [d1, d2] }
  | _ => none }
def NodeFindsWrongFalsely : Prop := nodeFindsRow.holds Tryd.pinned (OpenSpec.ofChange nodeFindsWrong)

/-- 'scriniumlaw07.NodeWeighs': WHATEVER THE INPUT: true; the input reads as it did. -/
def nodeWeighsSpec : ChangeSpec := { name := "nodeWeighs", fn := fun _ => fun
  | [d1, d2] => { results := [.lit (.bool true)], args := [d1, d2] }
  | _ => none }
def nodeWeighsRow : OpenClaim := { program := "ytlobelfnjabajaadoor", sum := "3a967bc8a24d46574d3820f61cb6301d3d2142caab6ff0d8feacd553e0649835", func := "scrinium/scriniumlaw07.NodeWeighs", spec := "nodeWeighs", unfollowed := true, recurses := true, named := ["scrinium/api.ErrForm", "scrinium/api.ErrRange"], apart := false, laid := [("scrinium/api.ErrForm", laid_scrinium_api_ErrForm), ("scrinium/api.ErrRange", laid_scrinium_api_ErrRange)] }
def NodeWeighsSaid : Prop := nodeWeighsRow.holds Tryd.pinned (OpenSpec.ofChange nodeWeighsSpec)

/-- ITS FALSE NEIGHBOUR: 'it returns false'. Refute it at one input. -/
def nodeWeighsWrong : ChangeSpec := { name := "nodeWeighs", fn := fun _ => fun
  | [d1, d2] => { results := [.lit (.bool false)], args := [d1, d2] }
  | _ => none }
def NodeWeighsWrongFalsely : Prop := nodeWeighsRow.holds Tryd.pinned (OpenSpec.ofChange nodeWeighsWrong)

/-- 'scriniumlaw16.BitmapMirrors': WHATEVER THE INPUT: true; the input reads as it did. -/
def bitmapMirrorsSpec : ChangeSpec := { name := "bitmapMirrors", fn := fun _ => fun
  | [d1, d2, d3] => { results := [.lit (.bool true)], args := [d1, d2, d3] }
  | _ => none }
def bitmapMirrorsRow : OpenClaim := { program := "ytlobelfnjabajaadoor", sum := "3a967bc8a24d46574d3820f61cb6301d3d2142caab6ff0d8feacd553e0649835", func := "scrinium/scriniumlaw16.BitmapMirrors", spec := "bitmapMirrors", named := ["scrinium/api.ErrRange", "scrinium/api.ErrForm", "scrinium/api.ErrCorrupt"], apart := false, laid := [("scrinium/api.ErrForm", laid_scrinium_api_ErrForm), ("scrinium/api.ErrRange", laid_scrinium_api_ErrRange), ("scrinium/api.ErrCorrupt", laid_scrinium_api_ErrCorrupt)] }
def BitmapMirrorsSaid : Prop := bitmapMirrorsRow.holds Tryd.pinned (OpenSpec.ofChange bitmapMirrorsSpec)

/-- ITS FALSE NEIGHBOUR: 'it returns false'. Refute it at one input. -/
def bitmapMirrorsWrong : ChangeSpec := { name := "bitmapMirrors", fn := fun _ => fun
  | [d1, d2, d3] => { results := [.lit (.bool false)], args := [d1, d2, d3] }
  | _ => none }
def BitmapMirrorsWrongFalsely : Prop := bitmapMirrorsRow.holds Tryd.pinned (OpenSpec.ofChange bitmapMirrorsWrong)

/-- 'scriniumlaw07.NodeGets': WHATEVER THE INPUT: true; the input reads as it did. -/
def nodeGetsSpec : ChangeSpec := { name := "nodeGets", fn := fun _ => fun
  | [d1, d2] => { results := [.lit (.bool true)], args := [d1, d2] }
  | _ => none }
def nodeGetsRow : OpenClaim := { program := "ytlobelfnjabajaadoor", sum := "3a967bc8a24d46574d3820f61cb6301d3d2142caab6ff0d8feacd553e0649835", func := "scrinium/scriniumlaw07.NodeGets", spec := "nodeGets", inPlace := ["internal/reflectlite.TypeOf"], unfollowed := true, recurses := true, named := ["scrinium/api.ErrForm", "scrinium/api.ErrRange", "scrinium/api.ErrFull", "scrinium/api.ErrNone", "scrinium/api.ErrCorrupt", "scrinium/api.ErrFuel", "scrinium/api.ErrState", "scrinium/api.ErrLong", "scrinium/api.ErrTwice"], apart := false, laid := [("scrinium/api.ErrForm", laid_scrinium_api_ErrForm), ("scrinium/api.ErrRange", laid_scrinium_api_ErrRange), ("scrinium/api.ErrFull", laid_scrinium_api_ErrFull), ("scrinium/api.ErrNone", laid_scrinium_api_ErrNone), ("scrinium/api.ErrCorrupt", laid_scrinium_api_ErrCorrupt), ("scrinium/api.ErrFuel", laid_scrinium_api_ErrFuel), ("scrinium/api.ErrState", laid_scrinium_api_ErrState), ("scrinium/api.ErrLong", laid_scrinium_api_ErrLong), ("scrinium/api.ErrTwice", laid_scrinium_api_ErrTwice)] }
def NodeGetsSaid : Prop := nodeGetsRow.holds Tryd.pinned (OpenSpec.ofChange nodeGetsSpec)

/-- ITS FALSE NEIGHBOUR: 'it returns false'. Refute it at one input. -/
def nodeGetsWrong : ChangeSpec := { name := "nodeGets", fn := fun _ => fun
  | [d1, d2] => { results := [.lit (.bool false)], args := [d1, d2] }
  | _ => none }
def NodeGetsWrongFalsely : Prop := nodeGetsRow.holds Tryd.pinned (OpenSpec.ofChange nodeGetsWrong)

/-- 'scriniumlaw07.NodePuts': WHATEVER THE INPUT: true; the input reads as it did. -/
def nodePutsSpec : ChangeSpec := { name := "nodePuts", fn := fun _ => fun
  | [d] => { results := [.lit (.bool true)], args := [d] }
  | _ => none }
def nodePutsRow : OpenClaim := { program := "ytlobelfnjabajaadoor", sum := "3a967bc8a24d46574d3820f61cb6301d3d2142caab6ff0d8feacd553e0649835", func := "scrinium/scriniumlaw07.NodePuts", spec := "nodePuts", inPlace := ["internal/reflectlite.TypeOf"], unfollowed := true, recurses := true, named := ["scrinium/api.ErrForm", "scrinium/api.ErrRange", "scrinium/api.ErrFull", "scrinium/api.ErrNone", "scrinium/api.ErrCorrupt", "scrinium/api.ErrFuel", "scrinium/api.ErrState", "scrinium/api.ErrLong", "scrinium/api.ErrTwice"], apart := false, laid := [("scrinium/api.ErrForm", laid_scrinium_api_ErrForm), ("scrinium/api.ErrRange", laid_scrinium_api_ErrRange), ("scrinium/api.ErrFull", laid_scrinium_api_ErrFull), ("scrinium/api.ErrNone", laid_scrinium_api_ErrNone), ("scrinium/api.ErrCorrupt", laid_scrinium_api_ErrCorrupt), ("scrinium/api.ErrFuel", laid_scrinium_api_ErrFuel), ("scrinium/api.ErrState", laid_scrinium_api_ErrState), ("scrinium/api.ErrLong", laid_scrinium_api_ErrLong), ("scrinium/api.ErrTwice", laid_scrinium_api_ErrTwice)] }
def NodePutsSaid : Prop := nodePutsRow.holds Tryd.pinned (OpenSpec.ofChange nodePutsSpec)

/-- ITS FALSE NEIGHBOUR: 'it returns false'. Refute it at one input. -/
def nodePutsWrong : ChangeSpec := { name := "nodePuts", fn := fun _ => fun
  | [d] => { results := [.lit (.bool false)], args := [d] }
  | _ => none }
def NodePutsWrongFalsely : Prop := nodePutsRow.holds Tryd.pinned (OpenSpec.ofChange nodePutsWrong)

/-- 'scriniumlaw16.BitmapSeals': WHATEVER THE INPUT: true; the input reads as it did. -/
def bitmapSealsSpec : ChangeSpec := { name := "bitmapSeals", fn := fun _ => fun
  | [d1, d2, d3] => { results := [.lit (.bool true)], args := [d1, d2, d3] }
  | _ => none }
def bitmapSealsRow : OpenClaim := { program := "ytlobelfnjabajaadoor", sum := "3a967bc8a24d46574d3820f61cb6301d3d2142caab6ff0d8feacd553e0649835", func := "scrinium/scriniumlaw16.BitmapSeals", spec := "bitmapSeals", inPlace := ["internal/reflectlite.TypeOf"], unfollowed := true, recurses := true, named := ["scrinium/api.ErrRange", "scrinium/api.ErrForm", "scrinium/api.ErrCorrupt", "scrinium/api.ErrFull", "scrinium/api.ErrNone", "scrinium/api.ErrFuel", "scrinium/api.ErrState", "scrinium/api.ErrLong", "scrinium/api.ErrTwice"], apart := false, laid := [("scrinium/api.ErrForm", laid_scrinium_api_ErrForm), ("scrinium/api.ErrRange", laid_scrinium_api_ErrRange), ("scrinium/api.ErrFull", laid_scrinium_api_ErrFull), ("scrinium/api.ErrNone", laid_scrinium_api_ErrNone), ("scrinium/api.ErrCorrupt", laid_scrinium_api_ErrCorrupt), ("scrinium/api.ErrFuel", laid_scrinium_api_ErrFuel), ("scrinium/api.ErrState", laid_scrinium_api_ErrState), ("scrinium/api.ErrLong", laid_scrinium_api_ErrLong), ("scrinium/api.ErrTwice", laid_scrinium_api_ErrTwice)] }
def BitmapSealsSaid : Prop := bitmapSealsRow.holds Tryd.pinned (OpenSpec.ofChange bitmapSealsSpec)

/-- ITS FALSE NEIGHBOUR: 'it returns false'. Refute it at one input. -/
def bitmapSealsWrong : ChangeSpec := { name := "bitmapSeals", fn := fun _ => fun
  | [d1, d2, d3] => { results := [.lit (.bool false)], args := [d1, d2, d3] }
  | _ => none }
def BitmapSealsWrongFalsely : Prop := bitmapSealsRow.holds Tryd.pinned (OpenSpec.ofChange bitmapSealsWrong)

/-- 'scriniumlaw16.BitmapBack': WHATEVER THE INPUT: true; the input reads as it did. -/
def bitmapBackSpec : ChangeSpec := { name := "bitmapBack", fn := fun _ => fun
  | [d1, d2] => { results := [.lit (.bool true)], args := [d1, d2] }
  | _ => none }
def bitmapBackRow : OpenClaim := { program := "ytlobelfnjabajaadoor", sum := "3a967bc8a24d46574d3820f61cb6301d3d2142caab6ff0d8feacd553e0649835", func := "scrinium/scriniumlaw16.BitmapBack", spec := "bitmapBack", inPlace := ["internal/reflectlite.TypeOf"], unfollowed := true, recurses := true, named := ["scrinium/api.ErrRange", "scrinium/api.ErrForm", "scrinium/api.ErrCorrupt", "scrinium/api.ErrFull", "scrinium/api.ErrNone", "scrinium/api.ErrFuel", "scrinium/api.ErrState", "scrinium/api.ErrLong", "scrinium/api.ErrTwice"], apart := false, laid := [("scrinium/api.ErrForm", laid_scrinium_api_ErrForm), ("scrinium/api.ErrRange", laid_scrinium_api_ErrRange), ("scrinium/api.ErrFull", laid_scrinium_api_ErrFull), ("scrinium/api.ErrNone", laid_scrinium_api_ErrNone), ("scrinium/api.ErrCorrupt", laid_scrinium_api_ErrCorrupt), ("scrinium/api.ErrFuel", laid_scrinium_api_ErrFuel), ("scrinium/api.ErrState", laid_scrinium_api_ErrState), ("scrinium/api.ErrLong", laid_scrinium_api_ErrLong), ("scrinium/api.ErrTwice", laid_scrinium_api_ErrTwice)] }
def BitmapBackSaid : Prop := bitmapBackRow.holds Tryd.pinned (OpenSpec.ofChange bitmapBackSpec)

/-- ITS FALSE NEIGHBOUR: 'it returns false'. Refute it at one input. -/
def bitmapBackWrong : ChangeSpec := { name := "bitmapBack", fn := fun _ => fun
  | [d1, d2] => { results := [.lit (.bool false)], args := [d1, d2] }
  | _ => none }
def BitmapBackWrongFalsely : Prop := bitmapBackRow.holds Tryd.pinned (OpenSpec.ofChange bitmapBackWrong)

/-- 'scriniumlaw16.BitmapOpens': WHATEVER THE INPUT: true; the input reads as it did. -/
def bitmapOpensSpec : ChangeSpec := { name := "bitmapOpens", fn := fun _ => fun
  | [d1, d2] => { results := [.lit (.bool true)], args := [d1, d2] }
  | _ => none }
def bitmapOpensRow : OpenClaim := { program := "ytlobelfnjabajaadoor", sum := "3a967bc8a24d46574d3820f61cb6301d3d2142caab6ff0d8feacd553e0649835", func := "scrinium/scriniumlaw16.BitmapOpens", spec := "bitmapOpens", inPlace := ["internal/reflectlite.TypeOf", "internal/reflectlite.ValueOf", "(internal/reflectlite.Value).Type", "(internal/reflectlite.Value).IsNil", "(internal/reflectlite.Value).Elem", "(internal/reflectlite.Value).Set"], unfollowed := true, recurses := true, named := ["scrinium/api.ErrCorrupt", "scrinium/api.ErrRange", "scrinium/api.ErrForm", "scrinium/api.ErrFull", "scrinium/api.ErrNone", "scrinium/api.ErrFuel", "scrinium/api.ErrState", "scrinium/api.ErrLong", "scrinium/api.ErrTwice", "errors.errorType"], apart := false, laid := [("errors.errorType", laid_errors_errorType), ("scrinium/api.ErrForm", laid_scrinium_api_ErrForm), ("scrinium/api.ErrRange", laid_scrinium_api_ErrRange), ("scrinium/api.ErrFull", laid_scrinium_api_ErrFull), ("scrinium/api.ErrNone", laid_scrinium_api_ErrNone), ("scrinium/api.ErrCorrupt", laid_scrinium_api_ErrCorrupt), ("scrinium/api.ErrFuel", laid_scrinium_api_ErrFuel), ("scrinium/api.ErrState", laid_scrinium_api_ErrState), ("scrinium/api.ErrLong", laid_scrinium_api_ErrLong), ("scrinium/api.ErrTwice", laid_scrinium_api_ErrTwice)] }
def BitmapOpensSaid : Prop := bitmapOpensRow.holds Tryd.pinned (OpenSpec.ofChange bitmapOpensSpec)

/-- ITS FALSE NEIGHBOUR: 'it returns false'. Refute it at one input. -/
def bitmapOpensWrong : ChangeSpec := { name := "bitmapOpens", fn := fun _ => fun
  | [d1, d2] => { results := [.lit (.bool false)], args := [d1, d2] }
  | _ => none }
def BitmapOpensWrongFalsely : Prop := bitmapOpensRow.holds Tryd.pinned (OpenSpec.ofChange bitmapOpensWrong)

/-- 'scriniumlaw16.BitmapChooses': WHATEVER THE INPUT: true; the input reads as it did. -/
def bitmapChoosesSpec : ChangeSpec := { name := "bitmapChooses", fn := fun _ => fun
  | [d1, d2, d3] => { results := [.lit (.bool true)], args := [d1, d2, d3] }
  | _ => none }
def bitmapChoosesRow : OpenClaim := { program := "ytlobelfnjabajaadoor", sum := "3a967bc8a24d46574d3820f61cb6301d3d2142caab6ff0d8feacd553e0649835", func := "scrinium/scriniumlaw16.BitmapChooses", spec := "bitmapChooses", inPlace := ["internal/reflectlite.TypeOf", "internal/reflectlite.ValueOf", "(internal/reflectlite.Value).Type", "(internal/reflectlite.Value).IsNil", "(internal/reflectlite.Value).Elem", "(internal/reflectlite.Value).Set"], unfollowed := true, recurses := true, named := ["scrinium/api.ErrCorrupt", "scrinium/api.ErrRange", "scrinium/api.ErrForm", "scrinium/api.ErrFull", "scrinium/api.ErrNone", "scrinium/api.ErrFuel", "scrinium/api.ErrState", "scrinium/api.ErrLong", "scrinium/api.ErrTwice", "errors.errorType"], apart := false, laid := [("errors.errorType", laid_errors_errorType), ("scrinium/api.ErrForm", laid_scrinium_api_ErrForm), ("scrinium/api.ErrRange", laid_scrinium_api_ErrRange), ("scrinium/api.ErrFull", laid_scrinium_api_ErrFull), ("scrinium/api.ErrNone", laid_scrinium_api_ErrNone), ("scrinium/api.ErrCorrupt", laid_scrinium_api_ErrCorrupt), ("scrinium/api.ErrFuel", laid_scrinium_api_ErrFuel), ("scrinium/api.ErrState", laid_scrinium_api_ErrState), ("scrinium/api.ErrLong", laid_scrinium_api_ErrLong), ("scrinium/api.ErrTwice", laid_scrinium_api_ErrTwice)] }
def BitmapChoosesSaid : Prop := bitmapChoosesRow.holds Tryd.pinned (OpenSpec.ofChange bitmapChoosesSpec)

/-- ITS FALSE NEIGHBOUR: 'it returns false'. Refute it at one input. -/
def bitmapChoosesWrong : ChangeSpec := { name := "bitmapChooses", fn := fun _ => fun
  | [d1, d2, d3] => { results := [.lit (.bool false)], args := [d1, d2, d3] }
  | _ => none }
def BitmapChoosesWrongFalsely : Prop := bitmapChoosesRow.holds Tryd.pinned (OpenSpec.ofChange bitmapChoosesWrong)

/- THE SECOND FORM. 'bulk': how many values and letters a reading holds, each counted each time it is reached (what is shared counts as often as it is met; a slice's spare places count too). A statement '..UptoSaid' is the law's where the arguments, and the package variables that the reading takes, are together of bulk at most 1048576: NARROWER than '..Said'. Prove '..Said' where nothing that the law and all that it calls make is longer than what came in: it says more and counts as full. Else prove '..UptoSaid'. A law counts once. -/
mutual
def uptoBulk {H : Type} : DataW H → Nat
  | .lit (.string bytes) => bytes.length + 1
  | .lit _ => 1
  | .nil => 1
  | .ptr d => uptoBulk d + 1
  | .slice elems spare => uptoBulkAll elems + uptoBulkAll spare + 1
  | .agg parts => uptoBulkAll parts + 1
  | .iface _ d => uptoBulk d + 1
  | .map entries => uptoBulkEntries entries + 1
  | .held _ => 1
def uptoBulkAll {H : Type} : List (DataW H) → Nat
  | [] => 0
  | d :: r => uptoBulk d + uptoBulkAll r
def uptoBulkEntries {H : Type} : List (Lit × DataW H) → Nat
  | [] => 0
  | x :: r => uptoBulkEntry x + uptoBulkEntries r
def uptoBulkEntry {H : Type} : Lit × DataW H → Nat
  | (.string bytes, d) => bytes.length + uptoBulk d + 1
  | (_, d) => uptoBulk d + 1
 end
def uptoSmall : (H : Type) → List (DataW H) → Bool := fun _ ds => decide (uptoBulkAll ds ≤ 1048576)
def OpenSpec.upto (s : _root_.Go.ChangeSpec) : _root_.Go.OpenSpec := { _root_.Go.OpenSpec.ofChange s with cond := some uptoSmall }

/-- 'scriniumlaw07.NodeBack', WHERE WHAT IT READS IS OF BULK AT MOST 1048576: true; the input reads as it did. -/
def nodeBackUptoRow : OpenClaim := { program := "ytlobelfnjabajaadoor", sum := "3a967bc8a24d46574d3820f61cb6301d3d2142caab6ff0d8feacd553e0649835", func := "scrinium/scriniumlaw07.NodeBack", spec := "nodeBack", unfollowed := true, recurses := true, named := ["scrinium/api.ErrForm", "scrinium/api.ErrRange"], apart := false, laid := [("scrinium/api.ErrForm", laid_scrinium_api_ErrForm), ("scrinium/api.ErrRange", laid_scrinium_api_ErrRange)], narrowed := true }
def NodeBackUptoSaid : Prop := nodeBackUptoRow.holds Tryd.pinned (OpenSpec.upto nodeBackSpec)

/-- 'scriniumlaw07.NodeSames', WHERE WHAT IT READS IS OF BULK AT MOST 1048576: true; the input reads as it did. -/
def nodeSamesUptoRow : OpenClaim := { program := "ytlobelfnjabajaadoor", sum := "3a967bc8a24d46574d3820f61cb6301d3d2142caab6ff0d8feacd553e0649835", func := "scrinium/scriniumlaw07.NodeSames", spec := "nodeSames", unfollowed := true, recurses := true, named := ["scrinium/api.ErrForm", "scrinium/api.ErrRange"], apart := false, laid := [("scrinium/api.ErrForm", laid_scrinium_api_ErrForm), ("scrinium/api.ErrRange", laid_scrinium_api_ErrRange)], narrowed := true }
def NodeSamesUptoSaid : Prop := nodeSamesUptoRow.holds Tryd.pinned (OpenSpec.upto nodeSamesSpec)

/-- 'scriniumlaw07.NodeFinds', WHERE WHAT IT READS IS OF BULK AT MOST 1048576: true; the input reads as it did. -/
def nodeFindsUptoRow : OpenClaim := { program := "ytlobelfnjabajaadoor", sum := "3a967bc8a24d46574d3820f61cb6301d3d2142caab6ff0d8feacd553e0649835", func := "scrinium/scriniumlaw07.NodeFinds", spec := "nodeFinds", unfollowed := true, recurses := true, named := ["scrinium/api.ErrForm", "scrinium/api.ErrRange"], apart := false, laid := [("scrinium/api.ErrForm", laid_scrinium_api_ErrForm), ("scrinium/api.ErrRange", laid_scrinium_api_ErrRange)], narrowed := true }
def NodeFindsUptoSaid : Prop := nodeFindsUptoRow.holds Tryd.pinned (OpenSpec.upto nodeFindsSpec)

/-- 'scriniumlaw07.NodeWeighs', WHERE WHAT IT READS IS OF BULK AT MOST 1048576: true; the input reads as it did. -/
def nodeWeighsUptoRow : OpenClaim := { program := "ytlobelfnjabajaadoor", sum := "3a967bc8a24d46574d3820f61cb6301d3d2142caab6ff0d8feacd553e0649835", func := "scrinium/scriniumlaw07.NodeWeighs", spec := "nodeWeighs", unfollowed := true, recurses := true, named := ["scrinium/api.ErrForm", "scrinium/api.ErrRange"], apart := false, laid := [("scrinium/api.ErrForm", laid_scrinium_api_ErrForm), ("scrinium/api.ErrRange", laid_scrinium_api_ErrRange)], narrowed := true }
def NodeWeighsUptoSaid : Prop := nodeWeighsUptoRow.holds Tryd.pinned (OpenSpec.upto nodeWeighsSpec)

/-- 'scriniumlaw16.BitmapMirrors', WHERE WHAT IT READS IS OF BULK AT MOST 1048576: true; the input reads as it did. -/
def bitmapMirrorsUptoRow : OpenClaim := { program := "ytlobelfnjabajaadoor", sum := "3a967bc8a24d46574d3820f61cb6301d3d2142caab6ff0d8feacd553e0649835", func := "scrinium/scriniumlaw16.BitmapMirrors", spec := "bitmapMirrors", named := ["scrinium/api.ErrRange", "scrinium/api.ErrForm", "scrinium/api.ErrCorrupt"], apart := false, laid := [("scrinium/api.ErrForm", laid_scrinium_api_ErrForm), ("scrinium/api.ErrRange", laid_scrinium_api_ErrRange), ("scrinium/api.ErrCorrupt", laid_scrinium_api_ErrCorrupt)], narrowed := true }
def BitmapMirrorsUptoSaid : Prop := bitmapMirrorsUptoRow.holds Tryd.pinned (OpenSpec.upto bitmapMirrorsSpec)

/-- 'scriniumlaw07.NodeGets', WHERE WHAT IT READS IS OF BULK AT MOST 1048576: true; the input reads as it did. -/
def nodeGetsUptoRow : OpenClaim := { program := "ytlobelfnjabajaadoor", sum := "3a967bc8a24d46574d3820f61cb6301d3d2142caab6ff0d8feacd553e0649835", func := "scrinium/scriniumlaw07.NodeGets", spec := "nodeGets", inPlace := ["internal/reflectlite.TypeOf"], unfollowed := true, recurses := true, named := ["scrinium/api.ErrForm", "scrinium/api.ErrRange", "scrinium/api.ErrFull", "scrinium/api.ErrNone", "scrinium/api.ErrCorrupt", "scrinium/api.ErrFuel", "scrinium/api.ErrState", "scrinium/api.ErrLong", "scrinium/api.ErrTwice"], apart := false, laid := [("scrinium/api.ErrForm", laid_scrinium_api_ErrForm), ("scrinium/api.ErrRange", laid_scrinium_api_ErrRange), ("scrinium/api.ErrFull", laid_scrinium_api_ErrFull), ("scrinium/api.ErrNone", laid_scrinium_api_ErrNone), ("scrinium/api.ErrCorrupt", laid_scrinium_api_ErrCorrupt), ("scrinium/api.ErrFuel", laid_scrinium_api_ErrFuel), ("scrinium/api.ErrState", laid_scrinium_api_ErrState), ("scrinium/api.ErrLong", laid_scrinium_api_ErrLong), ("scrinium/api.ErrTwice", laid_scrinium_api_ErrTwice)], narrowed := true }
def NodeGetsUptoSaid : Prop := nodeGetsUptoRow.holds Tryd.pinned (OpenSpec.upto nodeGetsSpec)

/-- 'scriniumlaw07.NodePuts', WHERE WHAT IT READS IS OF BULK AT MOST 1048576: true; the input reads as it did. -/
def nodePutsUptoRow : OpenClaim := { program := "ytlobelfnjabajaadoor", sum := "3a967bc8a24d46574d3820f61cb6301d3d2142caab6ff0d8feacd553e0649835", func := "scrinium/scriniumlaw07.NodePuts", spec := "nodePuts", inPlace := ["internal/reflectlite.TypeOf"], unfollowed := true, recurses := true, named := ["scrinium/api.ErrForm", "scrinium/api.ErrRange", "scrinium/api.ErrFull", "scrinium/api.ErrNone", "scrinium/api.ErrCorrupt", "scrinium/api.ErrFuel", "scrinium/api.ErrState", "scrinium/api.ErrLong", "scrinium/api.ErrTwice"], apart := false, laid := [("scrinium/api.ErrForm", laid_scrinium_api_ErrForm), ("scrinium/api.ErrRange", laid_scrinium_api_ErrRange), ("scrinium/api.ErrFull", laid_scrinium_api_ErrFull), ("scrinium/api.ErrNone", laid_scrinium_api_ErrNone), ("scrinium/api.ErrCorrupt", laid_scrinium_api_ErrCorrupt), ("scrinium/api.ErrFuel", laid_scrinium_api_ErrFuel), ("scrinium/api.ErrState", laid_scrinium_api_ErrState), ("scrinium/api.ErrLong", laid_scrinium_api_ErrLong), ("scrinium/api.ErrTwice", laid_scrinium_api_ErrTwice)], narrowed := true }
def NodePutsUptoSaid : Prop := nodePutsUptoRow.holds Tryd.pinned (OpenSpec.upto nodePutsSpec)

/-- 'scriniumlaw16.BitmapSeals', WHERE WHAT IT READS IS OF BULK AT MOST 1048576: true; the input reads as it did. -/
def bitmapSealsUptoRow : OpenClaim := { program := "ytlobelfnjabajaadoor", sum := "3a967bc8a24d46574d3820f61cb6301d3d2142caab6ff0d8feacd553e0649835", func := "scrinium/scriniumlaw16.BitmapSeals", spec := "bitmapSeals", inPlace := ["internal/reflectlite.TypeOf"], unfollowed := true, recurses := true, named := ["scrinium/api.ErrRange", "scrinium/api.ErrForm", "scrinium/api.ErrCorrupt", "scrinium/api.ErrFull", "scrinium/api.ErrNone", "scrinium/api.ErrFuel", "scrinium/api.ErrState", "scrinium/api.ErrLong", "scrinium/api.ErrTwice"], apart := false, laid := [("scrinium/api.ErrForm", laid_scrinium_api_ErrForm), ("scrinium/api.ErrRange", laid_scrinium_api_ErrRange), ("scrinium/api.ErrFull", laid_scrinium_api_ErrFull), ("scrinium/api.ErrNone", laid_scrinium_api_ErrNone), ("scrinium/api.ErrCorrupt", laid_scrinium_api_ErrCorrupt), ("scrinium/api.ErrFuel", laid_scrinium_api_ErrFuel), ("scrinium/api.ErrState", laid_scrinium_api_ErrState), ("scrinium/api.ErrLong", laid_scrinium_api_ErrLong), ("scrinium/api.ErrTwice", laid_scrinium_api_ErrTwice)], narrowed := true }
def BitmapSealsUptoSaid : Prop := bitmapSealsUptoRow.holds Tryd.pinned (OpenSpec.upto bitmapSealsSpec)

/-- 'scriniumlaw16.BitmapBack', WHERE WHAT IT READS IS OF BULK AT MOST 1048576: true; the input reads as it did. -/
def bitmapBackUptoRow : OpenClaim := { program := "ytlobelfnjabajaadoor", sum := "3a967bc8a24d46574d3820f61cb6301d3d2142caab6ff0d8feacd553e0649835", func := "scrinium/scriniumlaw16.BitmapBack", spec := "bitmapBack", inPlace := ["internal/reflectlite.TypeOf"], unfollowed := true, recurses := true, named := ["scrinium/api.ErrRange", "scrinium/api.ErrForm", "scrinium/api.ErrCorrupt", "scrinium/api.ErrFull", "scrinium/api.ErrNone", "scrinium/api.ErrFuel", "scrinium/api.ErrState", "scrinium/api.ErrLong", "scrinium/api.ErrTwice"], apart := false, laid := [("scrinium/api.ErrForm", laid_scrinium_api_ErrForm), ("scrinium/api.ErrRange", laid_scrinium_api_ErrRange), ("scrinium/api.ErrFull", laid_scrinium_api_ErrFull), ("scrinium/api.ErrNone", laid_scrinium_api_ErrNone), ("scrinium/api.ErrCorrupt", laid_scrinium_api_ErrCorrupt), ("scrinium/api.ErrFuel", laid_scrinium_api_ErrFuel), ("scrinium/api.ErrState", laid_scrinium_api_ErrState), ("scrinium/api.ErrLong", laid_scrinium_api_ErrLong), ("scrinium/api.ErrTwice", laid_scrinium_api_ErrTwice)], narrowed := true }
def BitmapBackUptoSaid : Prop := bitmapBackUptoRow.holds Tryd.pinned (OpenSpec.upto bitmapBackSpec)

/-- 'scriniumlaw16.BitmapOpens', WHERE WHAT IT READS IS OF BULK AT MOST 1048576: true; the input reads as it did. -/
def bitmapOpensUptoRow : OpenClaim := { program := "ytlobelfnjabajaadoor", sum := "3a967bc8a24d46574d3820f61cb6301d3d2142caab6ff0d8feacd553e0649835", func := "scrinium/scriniumlaw16.BitmapOpens", spec := "bitmapOpens", inPlace := ["internal/reflectlite.TypeOf", "internal/reflectlite.ValueOf", "(internal/reflectlite.Value).Type", "(internal/reflectlite.Value).IsNil", "(internal/reflectlite.Value).Elem", "(internal/reflectlite.Value).Set"], unfollowed := true, recurses := true, named := ["scrinium/api.ErrCorrupt", "scrinium/api.ErrRange", "scrinium/api.ErrForm", "scrinium/api.ErrFull", "scrinium/api.ErrNone", "scrinium/api.ErrFuel", "scrinium/api.ErrState", "scrinium/api.ErrLong", "scrinium/api.ErrTwice", "errors.errorType"], apart := false, laid := [("errors.errorType", laid_errors_errorType), ("scrinium/api.ErrForm", laid_scrinium_api_ErrForm), ("scrinium/api.ErrRange", laid_scrinium_api_ErrRange), ("scrinium/api.ErrFull", laid_scrinium_api_ErrFull), ("scrinium/api.ErrNone", laid_scrinium_api_ErrNone), ("scrinium/api.ErrCorrupt", laid_scrinium_api_ErrCorrupt), ("scrinium/api.ErrFuel", laid_scrinium_api_ErrFuel), ("scrinium/api.ErrState", laid_scrinium_api_ErrState), ("scrinium/api.ErrLong", laid_scrinium_api_ErrLong), ("scrinium/api.ErrTwice", laid_scrinium_api_ErrTwice)], narrowed := true }
def BitmapOpensUptoSaid : Prop := bitmapOpensUptoRow.holds Tryd.pinned (OpenSpec.upto bitmapOpensSpec)

/-- 'scriniumlaw16.BitmapChooses', WHERE WHAT IT READS IS OF BULK AT MOST 1048576: true; the input reads as it did. -/
def bitmapChoosesUptoRow : OpenClaim := { program := "ytlobelfnjabajaadoor", sum := "3a967bc8a24d46574d3820f61cb6301d3d2142caab6ff0d8feacd553e0649835", func := "scrinium/scriniumlaw16.BitmapChooses", spec := "bitmapChooses", inPlace := ["internal/reflectlite.TypeOf", "internal/reflectlite.ValueOf", "(internal/reflectlite.Value).Type", "(internal/reflectlite.Value).IsNil", "(internal/reflectlite.Value).Elem", "(internal/reflectlite.Value).Set"], unfollowed := true, recurses := true, named := ["scrinium/api.ErrCorrupt", "scrinium/api.ErrRange", "scrinium/api.ErrForm", "scrinium/api.ErrFull", "scrinium/api.ErrNone", "scrinium/api.ErrFuel", "scrinium/api.ErrState", "scrinium/api.ErrLong", "scrinium/api.ErrTwice", "errors.errorType"], apart := false, laid := [("errors.errorType", laid_errors_errorType), ("scrinium/api.ErrForm", laid_scrinium_api_ErrForm), ("scrinium/api.ErrRange", laid_scrinium_api_ErrRange), ("scrinium/api.ErrFull", laid_scrinium_api_ErrFull), ("scrinium/api.ErrNone", laid_scrinium_api_ErrNone), ("scrinium/api.ErrCorrupt", laid_scrinium_api_ErrCorrupt), ("scrinium/api.ErrFuel", laid_scrinium_api_ErrFuel), ("scrinium/api.ErrState", laid_scrinium_api_ErrState), ("scrinium/api.ErrLong", laid_scrinium_api_ErrLong), ("scrinium/api.ErrTwice", laid_scrinium_api_ErrTwice)], narrowed := true }
def BitmapChoosesUptoSaid : Prop := bitmapChoosesUptoRow.holds Tryd.pinned (OpenSpec.upto bitmapChoosesSpec)

end Rows
end Go.Proofs.YtlobelfnjabajaaDoor
