/-
  NARROWER THAN 'FOR EVERY INPUT', by the rows' own cells (each row's printed sentence says how): BlockNews: laid · BlockLasts: laid · BlockCrashes: laid · BlockTwice: laid · BlockFuses: laid · BlockNil: laid · CacheKeeps: laid · CachePins: laid · CacheCorrupt: laid · CacheNews: laid.
  DERIVED. THE GIVEN ROWS OF THIS SEAT. 10 by the template 'for every input the law returns true; each argument reads behind the call as it read before'; 0 by the template 'total and deterministic' (their statements: YtflbioiildndoaaDoorTotals.lean).
  GIVEN WITH THE SEED: the statements are not yours to turn. If you find one false, say at which input.
  Laid BY PROGRAM, IN A SANDBOX (cutbox-rows.mjs): the forced cells as the released guide's own fill.sh prints them over the translation 17b17a73b609994a… (all of the seat's roots in one cut). By AI agents, Wed Nov 11 2026. No macro, syntax, notation, axiom, sorry.
-/
import Derived.Test.YtflbioiildndoaaDoorChecked
import GoSem.Claim
import GoSem.ClaimJoined
import GoSem.ClaimMapViews
import Derived.JoinedTies
import Derived.KernelRfl
namespace Go.Proofs.YtflbioiildndoaaDoor
/- THE CELL 'sum', in the pinned program and in every row, IS THE sha256 OF THE DUMP (.gsa) THAT YtflbioiildndoaaDoorProg.lean LOADS. Nothing in Lean hashes anything: it is a label: what it is worth is what the hold of that sum in a sandbox is worth. -/
noncomputable def Tryd.pinned : Pinned := { name := "ytflbioiildndoaadoor", sum := "17b17a73b609994a52898061489042eb49855e1fe69ed0b8fa59eb48fec37ab8", checked := Tryd.checked }
namespace Rows
def none {H : Type} : Left H := { results := [], args := [] }

/- WHAT THE LISTED PACKAGE-LEVEL VARIABLES READ AS WHEN THE CALL BEGINS. Each datum BY PROGRAM (the guide's laid-datum.mjs) off the statement by which the dump's own 'gosem.cut.vars' lays the variable. In a bare row this is a premise. The card (YtflbioiildndoaaDoorCards.lean) ties it to the program's text. -/
def laid_scrinium_api_ErrForm {H : Type} : DataW H := .iface "*errors.errorString" (.ptr (.agg [.lit (.string [102, 111, 114, 109])]))
def laid_scrinium_api_ErrRange {H : Type} : DataW H := .iface "*errors.errorString" (.ptr (.agg [.lit (.string [114, 97, 110, 103, 101])]))
def laid_scrinium_api_ErrFull {H : Type} : DataW H := .iface "*errors.errorString" (.ptr (.agg [.lit (.string [102, 117, 108, 108])]))
def laid_scrinium_api_ErrNone {H : Type} : DataW H := .iface "*errors.errorString" (.ptr (.agg [.lit (.string [110, 111, 110, 101])]))
def laid_scrinium_api_ErrCorrupt {H : Type} : DataW H := .iface "*errors.errorString" (.ptr (.agg [.lit (.string [99, 111, 114, 114, 117, 112, 116])]))
def laid_scrinium_api_ErrFuel {H : Type} : DataW H := .iface "*errors.errorString" (.ptr (.agg [.lit (.string [102, 117, 101, 108])]))
def laid_scrinium_api_ErrState {H : Type} : DataW H := .iface "*errors.errorString" (.ptr (.agg [.lit (.string [115, 116, 97, 116, 101])]))
def laid_scrinium_api_ErrLong {H : Type} : DataW H := .iface "*errors.errorString" (.ptr (.agg [.lit (.string [108, 111, 110, 103])]))
def laid_scrinium_api_ErrTwice {H : Type} : DataW H := .iface "*errors.errorString" (.ptr (.agg [.lit (.string [116, 119, 105, 99, 101])]))

/-- 'scriniumlaw04.BlockNews': WHATEVER THE INPUT: true; the input reads as it did. -/
def blockNewsSpec : ChangeSpec := { name := "blockNews", fn := fun _ => fun
  | [d] => { results := [.lit (.bool true)], args := [d] }
  | _ => none }
def blockNewsRow : OpenClaim := { program := "ytflbioiildndoaadoor", sum := "17b17a73b609994a52898061489042eb49855e1fe69ed0b8fa59eb48fec37ab8", func := "scrinium/scriniumlaw04.BlockNews", spec := "blockNews", inPlace := ["internal/reflectlite.TypeOf"], unfollowed := true, recurses := true, named := ["scrinium/api.ErrRange", "scrinium/api.ErrForm", "scrinium/api.ErrFull", "scrinium/api.ErrNone", "scrinium/api.ErrCorrupt", "scrinium/api.ErrFuel", "scrinium/api.ErrState", "scrinium/api.ErrLong", "scrinium/api.ErrTwice"], apart := false, laid := [("scrinium/api.ErrForm", laid_scrinium_api_ErrForm), ("scrinium/api.ErrRange", laid_scrinium_api_ErrRange), ("scrinium/api.ErrFull", laid_scrinium_api_ErrFull), ("scrinium/api.ErrNone", laid_scrinium_api_ErrNone), ("scrinium/api.ErrCorrupt", laid_scrinium_api_ErrCorrupt), ("scrinium/api.ErrFuel", laid_scrinium_api_ErrFuel), ("scrinium/api.ErrState", laid_scrinium_api_ErrState), ("scrinium/api.ErrLong", laid_scrinium_api_ErrLong), ("scrinium/api.ErrTwice", laid_scrinium_api_ErrTwice)] }
def BlockNewsSaid : Prop := blockNewsRow.holds Tryd.pinned (OpenSpec.ofChange blockNewsSpec)

/-- ITS FALSE NEIGHBOUR: 'it returns false'. Refute it at one input. -/
def blockNewsWrong : ChangeSpec := { name := "blockNews", fn := fun _ => fun
  | [d] => { results := [.lit (.bool false)], args := [d] }
  | _ => none }
def BlockNewsWrongFalsely : Prop := blockNewsRow.holds Tryd.pinned (OpenSpec.ofChange blockNewsWrong)

/-- 'scriniumlaw04.BlockLasts': WHATEVER THE INPUT: true; the input reads as it did. -/
def blockLastsSpec : ChangeSpec := { name := "blockLasts", fn := fun _ => fun
  | [d1, d2, d3] => { results := [.lit (.bool true)], args := [d1, d2, d3] }
  | _ => none }
def blockLastsRow : OpenClaim := { program := "ytflbioiildndoaadoor", sum := "17b17a73b609994a52898061489042eb49855e1fe69ed0b8fa59eb48fec37ab8", func := "scrinium/scriniumlaw04.BlockLasts", spec := "blockLasts", inPlace := ["internal/reflectlite.TypeOf"], unfollowed := true, recurses := true, named := ["scrinium/api.ErrRange", "scrinium/api.ErrForm", "scrinium/api.ErrState", "scrinium/api.ErrFull", "scrinium/api.ErrNone", "scrinium/api.ErrCorrupt", "scrinium/api.ErrFuel", "scrinium/api.ErrLong", "scrinium/api.ErrTwice"], apart := false, laid := [("scrinium/api.ErrForm", laid_scrinium_api_ErrForm), ("scrinium/api.ErrRange", laid_scrinium_api_ErrRange), ("scrinium/api.ErrFull", laid_scrinium_api_ErrFull), ("scrinium/api.ErrNone", laid_scrinium_api_ErrNone), ("scrinium/api.ErrCorrupt", laid_scrinium_api_ErrCorrupt), ("scrinium/api.ErrFuel", laid_scrinium_api_ErrFuel), ("scrinium/api.ErrState", laid_scrinium_api_ErrState), ("scrinium/api.ErrLong", laid_scrinium_api_ErrLong), ("scrinium/api.ErrTwice", laid_scrinium_api_ErrTwice)] }
def BlockLastsSaid : Prop := blockLastsRow.holds Tryd.pinned (OpenSpec.ofChange blockLastsSpec)

/-- ITS FALSE NEIGHBOUR: 'it returns false'. Refute it at one input. -/
def blockLastsWrong : ChangeSpec := { name := "blockLasts", fn := fun _ => fun
  | [d1, d2, d3] => { results := [.lit (.bool false)], args := [d1, d2, d3] }
  | _ => none }
def BlockLastsWrongFalsely : Prop := blockLastsRow.holds Tryd.pinned (OpenSpec.ofChange blockLastsWrong)

/-- 'scriniumlaw04.BlockCrashes': WHATEVER THE INPUT: true; the input reads as it did. -/
def blockCrashesSpec : ChangeSpec := { name := "blockCrashes", fn := fun _ => fun
  | [d] => { results := [.lit (.bool true)], args := [d] }
  | _ => none }
def blockCrashesRow : OpenClaim := { program := "ytflbioiildndoaadoor", sum := "17b17a73b609994a52898061489042eb49855e1fe69ed0b8fa59eb48fec37ab8", func := "scrinium/scriniumlaw04.BlockCrashes", spec := "blockCrashes", inPlace := ["internal/reflectlite.TypeOf"], unfollowed := true, recurses := true, named := ["scrinium/api.ErrRange", "scrinium/api.ErrForm", "scrinium/api.ErrState", "scrinium/api.ErrFull", "scrinium/api.ErrNone", "scrinium/api.ErrCorrupt", "scrinium/api.ErrFuel", "scrinium/api.ErrLong", "scrinium/api.ErrTwice"], apart := false, laid := [("scrinium/api.ErrForm", laid_scrinium_api_ErrForm), ("scrinium/api.ErrRange", laid_scrinium_api_ErrRange), ("scrinium/api.ErrFull", laid_scrinium_api_ErrFull), ("scrinium/api.ErrNone", laid_scrinium_api_ErrNone), ("scrinium/api.ErrCorrupt", laid_scrinium_api_ErrCorrupt), ("scrinium/api.ErrFuel", laid_scrinium_api_ErrFuel), ("scrinium/api.ErrState", laid_scrinium_api_ErrState), ("scrinium/api.ErrLong", laid_scrinium_api_ErrLong), ("scrinium/api.ErrTwice", laid_scrinium_api_ErrTwice)] }
def BlockCrashesSaid : Prop := blockCrashesRow.holds Tryd.pinned (OpenSpec.ofChange blockCrashesSpec)

/-- ITS FALSE NEIGHBOUR: 'it returns false'. Refute it at one input. -/
def blockCrashesWrong : ChangeSpec := { name := "blockCrashes", fn := fun _ => fun
  | [d] => { results := [.lit (.bool false)], args := [d] }
  | _ => none }
def BlockCrashesWrongFalsely : Prop := blockCrashesRow.holds Tryd.pinned (OpenSpec.ofChange blockCrashesWrong)

/-- 'scriniumlaw04.BlockTwice': WHATEVER THE INPUT: true; the input reads as it did. -/
def blockTwiceSpec : ChangeSpec := { name := "blockTwice", fn := fun _ => fun
  | [d1, d2, d3] => { results := [.lit (.bool true)], args := [d1, d2, d3] }
  | _ => none }
def blockTwiceRow : OpenClaim := { program := "ytflbioiildndoaadoor", sum := "17b17a73b609994a52898061489042eb49855e1fe69ed0b8fa59eb48fec37ab8", func := "scrinium/scriniumlaw04.BlockTwice", spec := "blockTwice", inPlace := ["internal/reflectlite.TypeOf"], unfollowed := true, recurses := true, named := ["scrinium/api.ErrRange", "scrinium/api.ErrForm", "scrinium/api.ErrState", "scrinium/api.ErrFull", "scrinium/api.ErrNone", "scrinium/api.ErrCorrupt", "scrinium/api.ErrFuel", "scrinium/api.ErrLong", "scrinium/api.ErrTwice"], apart := false, laid := [("scrinium/api.ErrForm", laid_scrinium_api_ErrForm), ("scrinium/api.ErrRange", laid_scrinium_api_ErrRange), ("scrinium/api.ErrFull", laid_scrinium_api_ErrFull), ("scrinium/api.ErrNone", laid_scrinium_api_ErrNone), ("scrinium/api.ErrCorrupt", laid_scrinium_api_ErrCorrupt), ("scrinium/api.ErrFuel", laid_scrinium_api_ErrFuel), ("scrinium/api.ErrState", laid_scrinium_api_ErrState), ("scrinium/api.ErrLong", laid_scrinium_api_ErrLong), ("scrinium/api.ErrTwice", laid_scrinium_api_ErrTwice)] }
def BlockTwiceSaid : Prop := blockTwiceRow.holds Tryd.pinned (OpenSpec.ofChange blockTwiceSpec)

/-- ITS FALSE NEIGHBOUR: 'it returns false'. Refute it at one input. -/
def blockTwiceWrong : ChangeSpec := { name := "blockTwice", fn := fun _ => fun
  | [d1, d2, d3] => { results := [.lit (.bool false)], args := [d1, d2, d3] }
  | _ => none }
def BlockTwiceWrongFalsely : Prop := blockTwiceRow.holds Tryd.pinned (OpenSpec.ofChange blockTwiceWrong)

/-- 'scriniumlaw04.BlockFuses': WHATEVER THE INPUT: true; the input reads as it did. -/
def blockFusesSpec : ChangeSpec := { name := "blockFuses", fn := fun _ => fun
  | [d1, d2, d3] => { results := [.lit (.bool true)], args := [d1, d2, d3] }
  | _ => none }
def blockFusesRow : OpenClaim := { program := "ytflbioiildndoaadoor", sum := "17b17a73b609994a52898061489042eb49855e1fe69ed0b8fa59eb48fec37ab8", func := "scrinium/scriniumlaw04.BlockFuses", spec := "blockFuses", inPlace := ["internal/reflectlite.TypeOf"], unfollowed := true, recurses := true, named := ["scrinium/api.ErrRange", "scrinium/api.ErrForm", "scrinium/api.ErrState", "scrinium/api.ErrFull", "scrinium/api.ErrNone", "scrinium/api.ErrCorrupt", "scrinium/api.ErrFuel", "scrinium/api.ErrLong", "scrinium/api.ErrTwice"], apart := false, laid := [("scrinium/api.ErrForm", laid_scrinium_api_ErrForm), ("scrinium/api.ErrRange", laid_scrinium_api_ErrRange), ("scrinium/api.ErrFull", laid_scrinium_api_ErrFull), ("scrinium/api.ErrNone", laid_scrinium_api_ErrNone), ("scrinium/api.ErrCorrupt", laid_scrinium_api_ErrCorrupt), ("scrinium/api.ErrFuel", laid_scrinium_api_ErrFuel), ("scrinium/api.ErrState", laid_scrinium_api_ErrState), ("scrinium/api.ErrLong", laid_scrinium_api_ErrLong), ("scrinium/api.ErrTwice", laid_scrinium_api_ErrTwice)] }
def BlockFusesSaid : Prop := blockFusesRow.holds Tryd.pinned (OpenSpec.ofChange blockFusesSpec)

/-- ITS FALSE NEIGHBOUR: 'it returns false'. Refute it at one input. -/
def blockFusesWrong : ChangeSpec := { name := "blockFuses", fn := fun _ => fun
  | [d1, d2, d3] => { results := [.lit (.bool false)], args := [d1, d2, d3] }
  | _ => none }
def BlockFusesWrongFalsely : Prop := blockFusesRow.holds Tryd.pinned (OpenSpec.ofChange blockFusesWrong)

/-- 'scriniumlaw04.BlockNil': WHATEVER THE INPUT: true; the input reads as it did. -/
def blockNilSpec : ChangeSpec := { name := "blockNil", fn := fun _ => fun
  | [d] => { results := [.lit (.bool true)], args := [d] }
  | _ => none }
def blockNilRow : OpenClaim := { program := "ytflbioiildndoaadoor", sum := "17b17a73b609994a52898061489042eb49855e1fe69ed0b8fa59eb48fec37ab8", func := "scrinium/scriniumlaw04.BlockNil", spec := "blockNil", inPlace := ["internal/reflectlite.TypeOf"], unfollowed := true, recurses := true, named := ["scrinium/api.ErrState", "scrinium/api.ErrRange", "scrinium/api.ErrForm", "scrinium/api.ErrFull", "scrinium/api.ErrNone", "scrinium/api.ErrCorrupt", "scrinium/api.ErrFuel", "scrinium/api.ErrLong", "scrinium/api.ErrTwice"], apart := false, laid := [("scrinium/api.ErrForm", laid_scrinium_api_ErrForm), ("scrinium/api.ErrRange", laid_scrinium_api_ErrRange), ("scrinium/api.ErrFull", laid_scrinium_api_ErrFull), ("scrinium/api.ErrNone", laid_scrinium_api_ErrNone), ("scrinium/api.ErrCorrupt", laid_scrinium_api_ErrCorrupt), ("scrinium/api.ErrFuel", laid_scrinium_api_ErrFuel), ("scrinium/api.ErrState", laid_scrinium_api_ErrState), ("scrinium/api.ErrLong", laid_scrinium_api_ErrLong), ("scrinium/api.ErrTwice", laid_scrinium_api_ErrTwice)] }
def BlockNilSaid : Prop := blockNilRow.holds Tryd.pinned (OpenSpec.ofChange blockNilSpec)

/-- ITS FALSE NEIGHBOUR: 'it returns false'. Refute it at one input. -/
def blockNilWrong : ChangeSpec := { name := "blockNil", fn := fun _ => fun
  | [d] => { results := [.lit (.bool false)], args := [d] }
  | _ => none }
def BlockNilWrongFalsely : Prop := blockNilRow.holds Tryd.pinned (OpenSpec.ofChange blockNilWrong)

/-- 'scriniumlaw08.CacheKeeps': WHATEVER THE INPUT: true; the input reads as it did. -/
def cacheKeepsSpec : ChangeSpec := { name := "cacheKeeps", fn := fun _ => fun
  | [d1, d2] => { results := [.lit (.bool true)], args := [d1, d2] }
  | _ => none }
def cacheKeepsRow : OpenClaim := { program := "ytflbioiildndoaadoor", sum := "17b17a73b609994a52898061489042eb49855e1fe69ed0b8fa59eb48fec37ab8", func := "scrinium/scriniumlaw08.CacheKeeps", spec := "cacheKeeps", named := ["scrinium/api.ErrRange", "scrinium/api.ErrForm", "scrinium/api.ErrState", "scrinium/api.ErrFull", "scrinium/api.ErrCorrupt"], apart := false, laid := [("scrinium/api.ErrForm", laid_scrinium_api_ErrForm), ("scrinium/api.ErrRange", laid_scrinium_api_ErrRange), ("scrinium/api.ErrFull", laid_scrinium_api_ErrFull), ("scrinium/api.ErrCorrupt", laid_scrinium_api_ErrCorrupt), ("scrinium/api.ErrState", laid_scrinium_api_ErrState)] }
def CacheKeepsSaid : Prop := cacheKeepsRow.holds Tryd.pinned (OpenSpec.ofChange cacheKeepsSpec)

/-- ITS FALSE NEIGHBOUR: 'it returns false'. Refute it at one input. -/
def cacheKeepsWrong : ChangeSpec := { name := "cacheKeeps", fn := fun _ => fun
  | [d1, d2] => { results := [.lit (.bool false)], args := [d1, d2] }
  | _ => none }
def CacheKeepsWrongFalsely : Prop := cacheKeepsRow.holds Tryd.pinned (OpenSpec.ofChange cacheKeepsWrong)

/-- 'scriniumlaw08.CachePins': WHATEVER THE INPUT: true; the input reads as it did. -/
def cachePinsSpec : ChangeSpec := { name := "cachePins", fn := fun _ => fun
  | [d1, d2] => { results := [.lit (.bool true)], args := [d1, d2] }
  | _ => none }
def cachePinsRow : OpenClaim := { program := "ytflbioiildndoaadoor", sum := "17b17a73b609994a52898061489042eb49855e1fe69ed0b8fa59eb48fec37ab8", func := "scrinium/scriniumlaw08.CachePins", spec := "cachePins", inPlace := ["internal/reflectlite.TypeOf"], unfollowed := true, recurses := true, named := ["scrinium/api.ErrRange", "scrinium/api.ErrForm", "scrinium/api.ErrState", "scrinium/api.ErrFull", "scrinium/api.ErrCorrupt", "scrinium/api.ErrNone", "scrinium/api.ErrFuel", "scrinium/api.ErrLong", "scrinium/api.ErrTwice"], apart := false, laid := [("scrinium/api.ErrForm", laid_scrinium_api_ErrForm), ("scrinium/api.ErrRange", laid_scrinium_api_ErrRange), ("scrinium/api.ErrFull", laid_scrinium_api_ErrFull), ("scrinium/api.ErrNone", laid_scrinium_api_ErrNone), ("scrinium/api.ErrCorrupt", laid_scrinium_api_ErrCorrupt), ("scrinium/api.ErrFuel", laid_scrinium_api_ErrFuel), ("scrinium/api.ErrState", laid_scrinium_api_ErrState), ("scrinium/api.ErrLong", laid_scrinium_api_ErrLong), ("scrinium/api.ErrTwice", laid_scrinium_api_ErrTwice)] }
def CachePinsSaid : Prop := cachePinsRow.holds Tryd.pinned (OpenSpec.ofChange cachePinsSpec)

/-- ITS FALSE NEIGHBOUR: 'it returns false'. Refute it at one input. -/
def cachePinsWrong : ChangeSpec := { name := "cachePins", fn := fun _ => fun
  | [d1, d2] => { results := [.lit (.bool false)], args := [d1, d2] }
  | _ => none }
def CachePinsWrongFalsely : Prop := cachePinsRow.holds Tryd.pinned (OpenSpec.ofChange cachePinsWrong)

/-- 'scriniumlaw08.CacheCorrupt': WHATEVER THE INPUT: true; the input reads as it did. -/
def cacheCorruptSpec : ChangeSpec := { name := "cacheCorrupt", fn := fun _ => fun
  | [d1, d2] => { results := [.lit (.bool true)], args := [d1, d2] }
  | _ => none }
def cacheCorruptRow : OpenClaim := { program := "ytflbioiildndoaadoor", sum := "17b17a73b609994a52898061489042eb49855e1fe69ed0b8fa59eb48fec37ab8", func := "scrinium/scriniumlaw08.CacheCorrupt", spec := "cacheCorrupt", inPlace := ["internal/reflectlite.TypeOf"], unfollowed := true, recurses := true, named := ["scrinium/api.ErrRange", "scrinium/api.ErrForm", "scrinium/api.ErrState", "scrinium/api.ErrFull", "scrinium/api.ErrCorrupt", "scrinium/api.ErrNone", "scrinium/api.ErrFuel", "scrinium/api.ErrLong", "scrinium/api.ErrTwice"], apart := false, laid := [("scrinium/api.ErrForm", laid_scrinium_api_ErrForm), ("scrinium/api.ErrRange", laid_scrinium_api_ErrRange), ("scrinium/api.ErrFull", laid_scrinium_api_ErrFull), ("scrinium/api.ErrNone", laid_scrinium_api_ErrNone), ("scrinium/api.ErrCorrupt", laid_scrinium_api_ErrCorrupt), ("scrinium/api.ErrFuel", laid_scrinium_api_ErrFuel), ("scrinium/api.ErrState", laid_scrinium_api_ErrState), ("scrinium/api.ErrLong", laid_scrinium_api_ErrLong), ("scrinium/api.ErrTwice", laid_scrinium_api_ErrTwice)] }
def CacheCorruptSaid : Prop := cacheCorruptRow.holds Tryd.pinned (OpenSpec.ofChange cacheCorruptSpec)

/-- ITS FALSE NEIGHBOUR: 'it returns false'. Refute it at one input. -/
def cacheCorruptWrong : ChangeSpec := { name := "cacheCorrupt", fn := fun _ => fun
  | [d1, d2] => { results := [.lit (.bool false)], args := [d1, d2] }
  | _ => none }
def CacheCorruptWrongFalsely : Prop := cacheCorruptRow.holds Tryd.pinned (OpenSpec.ofChange cacheCorruptWrong)

/-- 'scriniumlaw08.CacheNews': WHATEVER THE INPUT: true; the input reads as it did. -/
def cacheNewsSpec : ChangeSpec := { name := "cacheNews", fn := fun _ => fun
  | [d1, d2] => { results := [.lit (.bool true)], args := [d1, d2] }
  | _ => none }
def cacheNewsRow : OpenClaim := { program := "ytflbioiildndoaadoor", sum := "17b17a73b609994a52898061489042eb49855e1fe69ed0b8fa59eb48fec37ab8", func := "scrinium/scriniumlaw08.CacheNews", spec := "cacheNews", inPlace := ["internal/reflectlite.TypeOf"], unfollowed := true, recurses := true, named := ["scrinium/api.ErrRange", "scrinium/api.ErrState", "scrinium/api.ErrForm", "scrinium/api.ErrFull", "scrinium/api.ErrNone", "scrinium/api.ErrCorrupt", "scrinium/api.ErrFuel", "scrinium/api.ErrLong", "scrinium/api.ErrTwice"], apart := false, laid := [("scrinium/api.ErrForm", laid_scrinium_api_ErrForm), ("scrinium/api.ErrRange", laid_scrinium_api_ErrRange), ("scrinium/api.ErrFull", laid_scrinium_api_ErrFull), ("scrinium/api.ErrNone", laid_scrinium_api_ErrNone), ("scrinium/api.ErrCorrupt", laid_scrinium_api_ErrCorrupt), ("scrinium/api.ErrFuel", laid_scrinium_api_ErrFuel), ("scrinium/api.ErrState", laid_scrinium_api_ErrState), ("scrinium/api.ErrLong", laid_scrinium_api_ErrLong), ("scrinium/api.ErrTwice", laid_scrinium_api_ErrTwice)] }
def CacheNewsSaid : Prop := cacheNewsRow.holds Tryd.pinned (OpenSpec.ofChange cacheNewsSpec)

/-- ITS FALSE NEIGHBOUR: 'it returns false'. Refute it at one input. -/
def cacheNewsWrong : ChangeSpec := { name := "cacheNews", fn := fun _ => fun
  | [d1, d2] => { results := [.lit (.bool false)], args := [d1, d2] }
  | _ => none }
def CacheNewsWrongFalsely : Prop := cacheNewsRow.holds Tryd.pinned (OpenSpec.ofChange cacheNewsWrong)

/- THE SECOND FORM. 'bulk': how many values and letters a reading holds, each counted each time it is reached (what is shared counts as often as it is met; a slice's spare places count too). A statement '..UptoSaid' is the law's where the arguments, and the package variables that the reading takes, are together of bulk at most 1048576: NARROWER than '..Said'. Prove '..Said' where nothing that the law and all that it calls make is longer than what came in: it says more and counts as full. Else prove '..UptoSaid'. A law counts once. -/
mutual
def uptoBulk {H : Type} : DataW H → Nat
  | .lit (.string bytes) => bytes.length + 1
  | .lit _ => 1
  | .nil => 1
  | .ptr d => uptoBulk d + 1
  | .slice elems spare => uptoBulkAll elems + uptoBulkAll spare + 1
  | .agg parts => uptoBulkAll parts + 1
  | .iface _ d => uptoBulk d + 1
  | .map entries => uptoBulkEntries entries + 1
  | .held _ => 1
def uptoBulkAll {H : Type} : List (DataW H) → Nat
  | [] => 0
  | d :: r => uptoBulk d + uptoBulkAll r
def uptoBulkEntries {H : Type} : List (Lit × DataW H) → Nat
  | [] => 0
  | x :: r => uptoBulkEntry x + uptoBulkEntries r
def uptoBulkEntry {H : Type} : Lit × DataW H → Nat
  | (.string bytes, d) => bytes.length + uptoBulk d + 1
  | (_, d) => uptoBulk d + 1
 end
def uptoSmall : (H : Type) → List (DataW H) → Bool := fun _ ds => decide (uptoBulkAll ds ≤ 1048576)
def OpenSpec.upto (s : _root_.Go.ChangeSpec) : _root_.Go.OpenSpec := { _root_.Go.OpenSpec.ofChange s with cond := some uptoSmall }

/-- 'scriniumlaw04.BlockNews', WHERE WHAT IT READS IS OF BULK AT MOST 1048576: true; the input reads as it did. -/
def blockNewsUptoRow : OpenClaim := { program := "ytflbioiildndoaadoor", sum := "17b17a73b609994a52898061489042eb49855e1fe69ed0b8fa59eb48fec37ab8", func := "scrinium/scriniumlaw04.BlockNews", spec := "blockNews", inPlace := ["internal/reflectlite.TypeOf"], unfollowed := true, recurses := true, named := ["scrinium/api.ErrRange", "scrinium/api.ErrForm", "scrinium/api.ErrFull", "scrinium/api.ErrNone", "scrinium/api.ErrCorrupt", "scrinium/api.ErrFuel", "scrinium/api.ErrState", "scrinium/api.ErrLong", "scrinium/api.ErrTwice"], apart := false, laid := [("scrinium/api.ErrForm", laid_scrinium_api_ErrForm), ("scrinium/api.ErrRange", laid_scrinium_api_ErrRange), ("scrinium/api.ErrFull", laid_scrinium_api_ErrFull), ("scrinium/api.ErrNone", laid_scrinium_api_ErrNone), ("scrinium/api.ErrCorrupt", laid_scrinium_api_ErrCorrupt), ("scrinium/api.ErrFuel", laid_scrinium_api_ErrFuel), ("scrinium/api.ErrState", laid_scrinium_api_ErrState), ("scrinium/api.ErrLong", laid_scrinium_api_ErrLong), ("scrinium/api.ErrTwice", laid_scrinium_api_ErrTwice)], narrowed := true }
def BlockNewsUptoSaid : Prop := blockNewsUptoRow.holds Tryd.pinned (OpenSpec.upto blockNewsSpec)

/-- 'scriniumlaw04.BlockLasts', WHERE WHAT IT READS IS OF BULK AT MOST 1048576: true; the input reads as it did. -/
def blockLastsUptoRow : OpenClaim := { program := "ytflbioiildndoaadoor", sum := "17b17a73b609994a52898061489042eb49855e1fe69ed0b8fa59eb48fec37ab8", func := "scrinium/scriniumlaw04.BlockLasts", spec := "blockLasts", inPlace := ["internal/reflectlite.TypeOf"], unfollowed := true, recurses := true, named := ["scrinium/api.ErrRange", "scrinium/api.ErrForm", "scrinium/api.ErrState", "scrinium/api.ErrFull", "scrinium/api.ErrNone", "scrinium/api.ErrCorrupt", "scrinium/api.ErrFuel", "scrinium/api.ErrLong", "scrinium/api.ErrTwice"], apart := false, laid := [("scrinium/api.ErrForm", laid_scrinium_api_ErrForm), ("scrinium/api.ErrRange", laid_scrinium_api_ErrRange), ("scrinium/api.ErrFull", laid_scrinium_api_ErrFull), ("scrinium/api.ErrNone", laid_scrinium_api_ErrNone), ("scrinium/api.ErrCorrupt", laid_scrinium_api_ErrCorrupt), ("scrinium/api.ErrFuel", laid_scrinium_api_ErrFuel), ("scrinium/api.ErrState", laid_scrinium_api_ErrState), ("scrinium/api.ErrLong", laid_scrinium_api_ErrLong), ("scrinium/api.ErrTwice", laid_scrinium_api_ErrTwice)], narrowed := true }
def BlockLastsUptoSaid : Prop := blockLastsUptoRow.holds Tryd.pinned (OpenSpec.upto blockLastsSpec)

/-- 'scriniumlaw04.BlockCrashes', WHERE WHAT IT READS IS OF BULK AT MOST 1048576: true; the input reads as it did. -/
def blockCrashesUptoRow : OpenClaim := { program := "ytflbioiildndoaadoor", sum := "17b17a73b609994a52898061489042eb49855e1fe69ed0b8fa59eb48fec37ab8", func := "scrinium/scriniumlaw04.BlockCrashes", spec := "blockCrashes", inPlace := ["internal/reflectlite.TypeOf"], unfollowed := true, recurses := true, named := ["scrinium/api.ErrRange", "scrinium/api.ErrForm", "scrinium/api.ErrState", "scrinium/api.ErrFull", "scrinium/api.ErrNone", "scrinium/api.ErrCorrupt", "scrinium/api.ErrFuel", "scrinium/api.ErrLong", "scrinium/api.ErrTwice"], apart := false, laid := [("scrinium/api.ErrForm", laid_scrinium_api_ErrForm), ("scrinium/api.ErrRange", laid_scrinium_api_ErrRange), ("scrinium/api.ErrFull", laid_scrinium_api_ErrFull), ("scrinium/api.ErrNone", laid_scrinium_api_ErrNone), ("scrinium/api.ErrCorrupt", laid_scrinium_api_ErrCorrupt), ("scrinium/api.ErrFuel", laid_scrinium_api_ErrFuel), ("scrinium/api.ErrState", laid_scrinium_api_ErrState), ("scrinium/api.ErrLong", laid_scrinium_api_ErrLong), ("scrinium/api.ErrTwice", laid_scrinium_api_ErrTwice)], narrowed := true }
def BlockCrashesUptoSaid : Prop := blockCrashesUptoRow.holds Tryd.pinned (OpenSpec.upto blockCrashesSpec)

/-- 'scriniumlaw04.BlockTwice', WHERE WHAT IT READS IS OF BULK AT MOST 1048576: true; the input reads as it did. -/
def blockTwiceUptoRow : OpenClaim := { program := "ytflbioiildndoaadoor", sum := "17b17a73b609994a52898061489042eb49855e1fe69ed0b8fa59eb48fec37ab8", func := "scrinium/scriniumlaw04.BlockTwice", spec := "blockTwice", inPlace := ["internal/reflectlite.TypeOf"], unfollowed := true, recurses := true, named := ["scrinium/api.ErrRange", "scrinium/api.ErrForm", "scrinium/api.ErrState", "scrinium/api.ErrFull", "scrinium/api.ErrNone", "scrinium/api.ErrCorrupt", "scrinium/api.ErrFuel", "scrinium/api.ErrLong", "scrinium/api.ErrTwice"], apart := false, laid := [("scrinium/api.ErrForm", laid_scrinium_api_ErrForm), ("scrinium/api.ErrRange", laid_scrinium_api_ErrRange), ("scrinium/api.ErrFull", laid_scrinium_api_ErrFull), ("scrinium/api.ErrNone", laid_scrinium_api_ErrNone), ("scrinium/api.ErrCorrupt", laid_scrinium_api_ErrCorrupt), ("scrinium/api.ErrFuel", laid_scrinium_api_ErrFuel), ("scrinium/api.ErrState", laid_scrinium_api_ErrState), ("scrinium/api.ErrLong", laid_scrinium_api_ErrLong), ("scrinium/api.ErrTwice", laid_scrinium_api_ErrTwice)], narrowed := true }
def BlockTwiceUptoSaid : Prop := blockTwiceUptoRow.holds Tryd.pinned (OpenSpec.upto blockTwiceSpec)

/-- 'scriniumlaw04.BlockFuses', WHERE WHAT IT READS IS OF BULK AT MOST 1048576: true; the input reads as it did. -/
def blockFusesUptoRow : OpenClaim := { program := "ytflbioiildndoaadoor", sum := "17b17a73b609994a52898061489042eb49855e1fe69ed0b8fa59eb48fec37ab8", func := "scrinium/scriniumlaw04.BlockFuses", spec := "blockFuses", inPlace := ["internal/reflectlite.TypeOf"], unfollowed := true, recurses := true, named := ["scrinium/api.ErrRange", "scrinium/api.ErrForm", "scrinium/api.ErrState", "scrinium/api.ErrFull", "scrinium/api.ErrNone", "scrinium/api.ErrCorrupt", "scrinium/api.ErrFuel", "scrinium/api.ErrLong", "scrinium/api.ErrTwice"], apart := false, laid := [("scrinium/api.ErrForm", laid_scrinium_api_ErrForm), ("scrinium/api.ErrRange", laid_scrinium_api_ErrRange), ("scrinium/api.ErrFull", laid_scrinium_api_ErrFull), ("scrinium/api.ErrNone", laid_scrinium_api_ErrNone), ("scrinium/api.ErrCorrupt", laid_scrinium_api_ErrCorrupt), ("scrinium/api.ErrFuel", laid_scrinium_api_ErrFuel), ("scrinium/api.ErrState", laid_scrinium_api_ErrState), ("scrinium/api.ErrLong", laid_scrinium_api_ErrLong), ("scrinium/api.ErrTwice", laid_scrinium_api_ErrTwice)], narrowed := true }
def BlockFusesUptoSaid : Prop := blockFusesUptoRow.holds Tryd.pinned (OpenSpec.upto blockFusesSpec)

/-- 'scriniumlaw04.BlockNil', WHERE WHAT IT READS IS OF BULK AT MOST 1048576: true; the input reads as it did. -/
def blockNilUptoRow : OpenClaim := { program := "ytflbioiildndoaadoor", sum := "17b17a73b609994a52898061489042eb49855e1fe69ed0b8fa59eb48fec37ab8", func := "scrinium/scriniumlaw04.BlockNil", spec := "blockNil", inPlace := ["internal/reflectlite.TypeOf"], unfollowed := true, recurses := true, named := ["scrinium/api.ErrState", "scrinium/api.ErrRange", "scrinium/api.ErrForm", "scrinium/api.ErrFull", "scrinium/api.ErrNone", "scrinium/api.ErrCorrupt", "scrinium/api.ErrFuel", "scrinium/api.ErrLong", "scrinium/api.ErrTwice"], apart := false, laid := [("scrinium/api.ErrForm", laid_scrinium_api_ErrForm), ("scrinium/api.ErrRange", laid_scrinium_api_ErrRange), ("scrinium/api.ErrFull", laid_scrinium_api_ErrFull), ("scrinium/api.ErrNone", laid_scrinium_api_ErrNone), ("scrinium/api.ErrCorrupt", laid_scrinium_api_ErrCorrupt), ("scrinium/api.ErrFuel", laid_scrinium_api_ErrFuel), ("scrinium/api.ErrState", laid_scrinium_api_ErrState), ("scrinium/api.ErrLong", laid_scrinium_api_ErrLong), ("scrinium/api.ErrTwice", laid_scrinium_api_ErrTwice)], narrowed := true }
def BlockNilUptoSaid : Prop := blockNilUptoRow.holds Tryd.pinned (OpenSpec.upto blockNilSpec)

/-- 'scriniumlaw08.CacheKeeps', WHERE WHAT IT READS IS OF BULK AT MOST 1048576: true; the input reads as it did. -/
def cacheKeepsUptoRow : OpenClaim := { program := "ytflbioiildndoaadoor", sum := "17b17a73b609994a52898061489042eb49855e1fe69ed0b8fa59eb48fec37ab8", func := "scrinium/scriniumlaw08.CacheKeeps", spec := "cacheKeeps", named := ["scrinium/api.ErrRange", "scrinium/api.ErrForm", "scrinium/api.ErrState", "scrinium/api.ErrFull", "scrinium/api.ErrCorrupt"], apart := false, laid := [("scrinium/api.ErrForm", laid_scrinium_api_ErrForm), ("scrinium/api.ErrRange", laid_scrinium_api_ErrRange), ("scrinium/api.ErrFull", laid_scrinium_api_ErrFull), ("scrinium/api.ErrCorrupt", laid_scrinium_api_ErrCorrupt), ("scrinium/api.ErrState", laid_scrinium_api_ErrState)], narrowed := true }
def CacheKeepsUptoSaid : Prop := cacheKeepsUptoRow.holds Tryd.pinned (OpenSpec.upto cacheKeepsSpec)

/-- 'scriniumlaw08.CachePins', WHERE WHAT IT READS IS OF BULK AT MOST 1048576: true; the input reads as it did. -/
def cachePinsUptoRow : OpenClaim := { program := "ytflbioiildndoaadoor", sum := "17b17a73b609994a52898061489042eb49855e1fe69ed0b8fa59eb48fec37ab8", func := "scrinium/scriniumlaw08.CachePins", spec := "cachePins", inPlace := ["internal/reflectlite.TypeOf"], unfollowed := true, recurses := true, named := ["scrinium/api.ErrRange", "scrinium/api.ErrForm", "scrinium/api.ErrState", "scrinium/api.ErrFull", "scrinium/api.ErrCorrupt", "scrinium/api.ErrNone", "scrinium/api.ErrFuel", "scrinium/api.ErrLong", "scrinium/api.ErrTwice"], apart := false, laid := [("scrinium/api.ErrForm", laid_scrinium_api_ErrForm), ("scrinium/api.ErrRange", laid_scrinium_api_ErrRange), ("scrinium/api.ErrFull", laid_scrinium_api_ErrFull), ("scrinium/api.ErrNone", laid_scrinium_api_ErrNone), ("scrinium/api.ErrCorrupt", laid_scrinium_api_ErrCorrupt), ("scrinium/api.ErrFuel", laid_scrinium_api_ErrFuel), ("scrinium/api.ErrState", laid_scrinium_api_ErrState), ("scrinium/api.ErrLong", laid_scrinium_api_ErrLong), ("scrinium/api.ErrTwice", laid_scrinium_api_ErrTwice)], narrowed := true }
def CachePinsUptoSaid : Prop := cachePinsUptoRow.holds Tryd.pinned (OpenSpec.upto cachePinsSpec)

/-- 'scriniumlaw08.CacheCorrupt', WHERE WHAT IT READS IS OF BULK AT MOST 1048576: true; the input reads as it did. -/
def cacheCorruptUptoRow : OpenClaim := { program := "ytflbioiildndoaadoor", sum := "17b17a73b609994a52898061489042eb49855e1fe69ed0b8fa59eb48fec37ab8", func := "scrinium/scriniumlaw08.CacheCorrupt", spec := "cacheCorrupt", inPlace := ["internal/reflectlite.TypeOf"], unfollowed := true, recurses := true, named := ["scrinium/api.ErrRange", "scrinium/api.ErrForm", "scrinium/api.ErrState", "scrinium/api.ErrFull", "scrinium/api.ErrCorrupt", "scrinium/api.ErrNone", "scrinium/api.ErrFuel", "scrinium/api.ErrLong", "scrinium/api.ErrTwice"], apart := false, laid := [("scrinium/api.ErrForm", laid_scrinium_api_ErrForm), ("scrinium/api.ErrRange", laid_scrinium_api_ErrRange), ("scrinium/api.ErrFull", laid_scrinium_api_ErrFull), ("scrinium/api.ErrNone", laid_scrinium_api_ErrNone), ("scrinium/api.ErrCorrupt", laid_scrinium_api_ErrCorrupt), ("scrinium/api.ErrFuel", laid_scrinium_api_ErrFuel), ("scrinium/api.ErrState", laid_scrinium_api_ErrState), ("scrinium/api.ErrLong", laid_scrinium_api_ErrLong), ("scrinium/api.ErrTwice", laid_scrinium_api_ErrTwice)], narrowed := true }
def CacheCorruptUptoSaid : Prop := cacheCorruptUptoRow.holds Tryd.pinned (OpenSpec.upto cacheCorruptSpec)

/-- 'scriniumlaw08.CacheNews', WHERE WHAT IT READS IS OF BULK AT MOST 1048576: true; the input reads as it did. -/
def cacheNewsUptoRow : OpenClaim := { program := "ytflbioiildndoaadoor", sum := "17b17a73b609994a52898061489042eb49855e1fe69ed0b8fa59eb48fec37ab8", func := "scrinium/scriniumlaw08.CacheNews", spec := "cacheNews", inPlace := ["internal/reflectlite.TypeOf"], unfollowed := true, recurses := true, named := ["scrinium/api.ErrRange", "scrinium/api.ErrState", "scrinium/api.ErrForm", "scrinium/api.ErrFull", "scrinium/api.ErrNone", "scrinium/api.ErrCorrupt", "scrinium/api.ErrFuel", "scrinium/api.ErrLong", "scrinium/api.ErrTwice"], apart := false, laid := [("scrinium/api.ErrForm", laid_scrinium_api_ErrForm), ("scrinium/api.ErrRange", laid_scrinium_api_ErrRange), ("scrinium/api.ErrFull", laid_scrinium_api_ErrFull), ("scrinium/api.ErrNone", laid_scrinium_api_ErrNone), ("scrinium/api.ErrCorrupt", laid_scrinium_api_ErrCorrupt), ("scrinium/api.ErrFuel", laid_scrinium_api_ErrFuel), ("scrinium/api.ErrState", laid_scrinium_api_ErrState), ("scrinium/api.ErrLong", laid_scrinium_api_ErrLong), ("scrinium/api.ErrTwice", laid_scrinium_api_ErrTwice)], narrowed := true }
def CacheNewsUptoSaid : Prop := cacheNewsUptoRow.holds Tryd.pinned (OpenSpec.upto cacheNewsSpec)

end Rows
end Go.Proofs.YtflbioiildndoaaDoor
