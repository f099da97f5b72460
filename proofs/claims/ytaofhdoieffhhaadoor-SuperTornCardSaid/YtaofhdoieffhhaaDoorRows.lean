/-
  NARROWER THAN 'FOR EVERY INPUT', by the rows' own cells (each row's printed sentence says how): PageBack: laid · PageSames: laid · PageSeals: laid · PageBursts: laid · SuperTorn: laid · SuperSeals: laid · SuperBack: laid · PageOpens: laid · PagePlaces: laid · SuperOpens: laid · SuperChooses: laid.
  DERIVED. THE GIVEN ROWS OF THIS SEAT. 11 by the template 'for every input the law returns true; each argument reads behind the call as it read before'; 0 by the template 'total and deterministic' (their statements: YtaofhdoieffhhaaDoorTotals.lean).
  GIVEN WITH THE SEED: the statements are not yours to turn. If you find one false, say at which input.
  Laid BY PROGRAM, IN A SANDBOX (cutbox-rows.mjs): the forced cells as the released guide's own fill.sh prints them over the translation 8e66797aabd1b83c… (all of the seat's roots in one cut). By AI agents, Wed Nov 11 2026. No macro, syntax, notation, axiom, sorry.
-/
import Derived.Test.YtaofhdoieffhhaaDoorChecked
import GoSem.Claim
import GoSem.ClaimJoined
import GoSem.ClaimMapViews
import Derived.JoinedTies
import Derived.KernelRfl
namespace Go.Proofs.YtaofhdoieffhhaaDoor
/- THE CELL 'sum', in the pinned program and in every row, IS THE sha256 OF THE DUMP (.gsa) THAT YtaofhdoieffhhaaDoorProg.lean LOADS. Nothing in Lean hashes anything: it is a label: what it is worth is what the hold of that sum in a sandbox is worth. -/
noncomputable def Tryd.pinned : Pinned := { name := "ytaofhdoieffhhaadoor", sum := "8e66797aabd1b83c3fc1de773448e93c34502428aa28c3d700d0f52699b067f5", checked := Tryd.checked }
namespace Rows
def none {H : Type} : Left H := { results := [], args := [] }

/- WHAT THE LISTED PACKAGE-LEVEL VARIABLES READ AS WHEN THE CALL BEGINS. Each datum BY PROGRAM (the guide's laid-datum.mjs) off the statement by which the dump's own 'gosem.cut.vars' lays the variable. In a bare row this is a premise. The card (YtaofhdoieffhhaaDoorCards.lean) ties it to the program's text. -/
def laid_scrinium_api_ErrForm {H : Type} : DataW H := .iface "*errors.errorString" (.ptr (.agg [.lit (.string [102, 111, 114, 109])]))
def laid_scrinium_api_ErrRange {H : Type} : DataW H := .iface "*errors.errorString" (.ptr (.agg [.lit (.string [114, 97, 110, 103, 101])]))
def laid_scrinium_api_ErrCorrupt {H : Type} : DataW H := .iface "*errors.errorString" (.ptr (.agg [.lit (.string [99, 111, 114, 114, 117, 112, 116])]))
def laid_scrinium_api_ErrFull {H : Type} : DataW H := .iface "*errors.errorString" (.ptr (.agg [.lit (.string [102, 117, 108, 108])]))
def laid_scrinium_api_ErrNone {H : Type} : DataW H := .iface "*errors.errorString" (.ptr (.agg [.lit (.string [110, 111, 110, 101])]))
def laid_scrinium_api_ErrFuel {H : Type} : DataW H := .iface "*errors.errorString" (.ptr (.agg [.lit (.string [102, 117, 101, 108])]))
def laid_scrinium_api_ErrState {H : Type} : DataW H := .iface "*errors.errorString" (.ptr (.agg [.lit (.string [115, 116, 97, 116, 101])]))
def laid_scrinium_api_ErrLong {H : Type} : DataW H := .iface "*errors.errorString" (.ptr (.agg [.lit (.string [108, 111, 110, 103])]))
def laid_scrinium_api_ErrTwice {H : Type} : DataW H := .iface "*errors.errorString" (.ptr (.agg [.lit (.string [116, 119, 105, 99, 101])]))
def laid_errors_errorType {H : Type} : DataW H := .iface "internal/reflectlite.rtype" (.agg [.ptr (.lit (.string [101, 114, 114, 111, 114]))])

/-- 'scriniumlaw05.PageBack': WHATEVER THE INPUT: true; the input reads as it did. -/
def pageBackSpec : ChangeSpec := { name := "pageBack", fn := fun _ => fun
  | [d1, d2, d3] => { results := [.lit (.bool true)], args := [d1, d2, d3] }
  | _ => none }
def pageBackRow : OpenClaim := { program := "ytaofhdoieffhhaadoor", sum := "8e66797aabd1b83c3fc1de773448e93c34502428aa28c3d700d0f52699b067f5", func := "scrinium/scriniumlaw05.PageBack", spec := "pageBack", named := ["scrinium/api.ErrRange", "scrinium/api.ErrForm", "scrinium/api.ErrCorrupt"], apart := false, laid := [("scrinium/api.ErrForm", laid_scrinium_api_ErrForm), ("scrinium/api.ErrRange", laid_scrinium_api_ErrRange), ("scrinium/api.ErrCorrupt", laid_scrinium_api_ErrCorrupt)] }
def PageBackSaid : Prop := pageBackRow.holds Tryd.pinned (OpenSpec.ofChange pageBackSpec)

/-- ITS FALSE NEIGHBOUR: 'it returns false'. Refute it at one input. -/
def pageBackWrong : ChangeSpec := { name := "pageBack", fn := fun _ => fun
  | [d1, d2, d3] => { results := [.lit (.bool false)], args := [d1, d2, d3] }
  | _ => none }
def PageBackWrongFalsely : Prop := pageBackRow.holds Tryd.pinned (OpenSpec.ofChange pageBackWrong)

/-- 'scriniumlaw05.PageSames': WHATEVER THE INPUT: true; the input reads as it did. -/
def pageSamesSpec : ChangeSpec := { name := "pageSames", fn := fun _ => fun
  | [d1, d2] => { results := [.lit (.bool true)], args := [d1, d2] }
  | _ => none }
def pageSamesRow : OpenClaim := { program := "ytaofhdoieffhhaadoor", sum := "8e66797aabd1b83c3fc1de773448e93c34502428aa28c3d700d0f52699b067f5", func := "scrinium/scriniumlaw05.PageSames", spec := "pageSames", named := ["scrinium/api.ErrRange", "scrinium/api.ErrForm", "scrinium/api.ErrCorrupt"], apart := false, laid := [("scrinium/api.ErrForm", laid_scrinium_api_ErrForm), ("scrinium/api.ErrRange", laid_scrinium_api_ErrRange), ("scrinium/api.ErrCorrupt", laid_scrinium_api_ErrCorrupt)] }
def PageSamesSaid : Prop := pageSamesRow.holds Tryd.pinned (OpenSpec.ofChange pageSamesSpec)

/-- ITS FALSE NEIGHBOUR: 'it returns false'. Refute it at one input. -/
def pageSamesWrong : ChangeSpec := { name := "pageSames", fn := fun _ => fun
  | [d1, d2] => { results := [.lit (.bool false)], args := [d1, d2] }
  | _ => none }
def PageSamesWrongFalsely : Prop := pageSamesRow.holds Tryd.pinned (OpenSpec.ofChange pageSamesWrong)

/-- 'scriniumlaw05.PageSeals': WHATEVER THE INPUT: true; the input reads as it did. -/
def pageSealsSpec : ChangeSpec := { name := "pageSeals", fn := fun _ => fun
  | [d1, d2] => { results := [.lit (.bool true)], args := [d1, d2] }
  | _ => none }
def pageSealsRow : OpenClaim := { program := "ytaofhdoieffhhaadoor", sum := "8e66797aabd1b83c3fc1de773448e93c34502428aa28c3d700d0f52699b067f5", func := "scrinium/scriniumlaw05.PageSeals", spec := "pageSeals", inPlace := ["internal/reflectlite.TypeOf"], unfollowed := true, recurses := true, named := ["scrinium/api.ErrRange", "scrinium/api.ErrForm", "scrinium/api.ErrFull", "scrinium/api.ErrNone", "scrinium/api.ErrCorrupt", "scrinium/api.ErrFuel", "scrinium/api.ErrState", "scrinium/api.ErrLong", "scrinium/api.ErrTwice"], apart := false, laid := [("scrinium/api.ErrForm", laid_scrinium_api_ErrForm), ("scrinium/api.ErrRange", laid_scrinium_api_ErrRange), ("scrinium/api.ErrFull", laid_scrinium_api_ErrFull), ("scrinium/api.ErrNone", laid_scrinium_api_ErrNone), ("scrinium/api.ErrCorrupt", laid_scrinium_api_ErrCorrupt), ("scrinium/api.ErrFuel", laid_scrinium_api_ErrFuel), ("scrinium/api.ErrState", laid_scrinium_api_ErrState), ("scrinium/api.ErrLong", laid_scrinium_api_ErrLong), ("scrinium/api.ErrTwice", laid_scrinium_api_ErrTwice)] }
def PageSealsSaid : Prop := pageSealsRow.holds Tryd.pinned (OpenSpec.ofChange pageSealsSpec)

/-- ITS FALSE NEIGHBOUR: 'it returns false'. Refute it at one input. -/
def pageSealsWrong : ChangeSpec := { name := "pageSeals", fn := fun _ => fun
  | [d1, d2] => { results := [.lit (.bool false)], args := [d1, d2] }
  | _ => none }
def PageSealsWrongFalsely : Prop := pageSealsRow.holds Tryd.pinned (OpenSpec.ofChange pageSealsWrong)

/-- 'scriniumlaw05.PageBursts': WHATEVER THE INPUT: true; the input reads as it did. -/
def pageBurstsSpec : ChangeSpec := { name := "pageBursts", fn := fun _ => fun
  | [d1, d2, d3] => { results := [.lit (.bool true)], args := [d1, d2, d3] }
  | _ => none }
def pageBurstsRow : OpenClaim := { program := "ytaofhdoieffhhaadoor", sum := "8e66797aabd1b83c3fc1de773448e93c34502428aa28c3d700d0f52699b067f5", func := "scrinium/scriniumlaw05.PageBursts", spec := "pageBursts", inPlace := ["internal/reflectlite.TypeOf"], unfollowed := true, recurses := true, named := ["scrinium/api.ErrRange", "scrinium/api.ErrForm", "scrinium/api.ErrFull", "scrinium/api.ErrNone", "scrinium/api.ErrCorrupt", "scrinium/api.ErrFuel", "scrinium/api.ErrState", "scrinium/api.ErrLong", "scrinium/api.ErrTwice"], apart := false, laid := [("scrinium/api.ErrForm", laid_scrinium_api_ErrForm), ("scrinium/api.ErrRange", laid_scrinium_api_ErrRange), ("scrinium/api.ErrFull", laid_scrinium_api_ErrFull), ("scrinium/api.ErrNone", laid_scrinium_api_ErrNone), ("scrinium/api.ErrCorrupt", laid_scrinium_api_ErrCorrupt), ("scrinium/api.ErrFuel", laid_scrinium_api_ErrFuel), ("scrinium/api.ErrState", laid_scrinium_api_ErrState), ("scrinium/api.ErrLong", laid_scrinium_api_ErrLong), ("scrinium/api.ErrTwice", laid_scrinium_api_ErrTwice)] }
def PageBurstsSaid : Prop := pageBurstsRow.holds Tryd.pinned (OpenSpec.ofChange pageBurstsSpec)

/-- ITS FALSE NEIGHBOUR: 'it returns false'. Refute it at one input. -/
def pageBurstsWrong : ChangeSpec := { name := "pageBursts", fn := fun _ => fun
  | [d1, d2, d3] => { results := [.lit (.bool false)], args := [d1, d2, d3] }
  | _ => none }
def PageBurstsWrongFalsely : Prop := pageBurstsRow.holds Tryd.pinned (OpenSpec.ofChange pageBurstsWrong)

/-- 'scriniumlaw06.SuperTorn': WHATEVER THE INPUT: true; the input reads as it did. -/
def superTornSpec : ChangeSpec := { name := "superTorn", fn := fun _ => fun
  | [d] => { results := [.lit (.bool true)], args := [d] }
  | _ => none }
def superTornRow : OpenClaim := { program := "ytaofhdoieffhhaadoor", sum := "8e66797aabd1b83c3fc1de773448e93c34502428aa28c3d700d0f52699b067f5", func := "scrinium/scriniumlaw06.SuperTorn", spec := "superTorn", named := ["scrinium/api.ErrRange", "scrinium/api.ErrForm", "scrinium/api.ErrCorrupt"], apart := false, laid := [("scrinium/api.ErrForm", laid_scrinium_api_ErrForm), ("scrinium/api.ErrRange", laid_scrinium_api_ErrRange), ("scrinium/api.ErrCorrupt", laid_scrinium_api_ErrCorrupt)] }
def SuperTornSaid : Prop := superTornRow.holds Tryd.pinned (OpenSpec.ofChange superTornSpec)

/-- ITS FALSE NEIGHBOUR: 'it returns false'. Refute it at one input. -/
def superTornWrong : ChangeSpec := { name := "superTorn", fn := fun _ => fun
  | [d] => { results := [.lit (.bool false)], args := [d] }
  | _ => none }
def SuperTornWrongFalsely : Prop := superTornRow.holds Tryd.pinned (OpenSpec.ofChange superTornWrong)

/-- 'scriniumlaw06.SuperSeals': WHATEVER THE INPUT: true; the input reads as it did. -/
def superSealsSpec : ChangeSpec := { name := "superSeals", fn := fun _ => fun
  | [d1, d2] => { results := [.lit (.bool true)], args := [d1, d2] }
  | _ => none }
def superSealsRow : OpenClaim := { program := "ytaofhdoieffhhaadoor", sum := "8e66797aabd1b83c3fc1de773448e93c34502428aa28c3d700d0f52699b067f5", func := "scrinium/scriniumlaw06.SuperSeals", spec := "superSeals", inPlace := ["internal/reflectlite.TypeOf"], unfollowed := true, recurses := true, named := ["scrinium/api.ErrRange", "scrinium/api.ErrForm", "scrinium/api.ErrFull", "scrinium/api.ErrNone", "scrinium/api.ErrCorrupt", "scrinium/api.ErrFuel", "scrinium/api.ErrState", "scrinium/api.ErrLong", "scrinium/api.ErrTwice"], apart := false, laid := [("scrinium/api.ErrForm", laid_scrinium_api_ErrForm), ("scrinium/api.ErrRange", laid_scrinium_api_ErrRange), ("scrinium/api.ErrFull", laid_scrinium_api_ErrFull), ("scrinium/api.ErrNone", laid_scrinium_api_ErrNone), ("scrinium/api.ErrCorrupt", laid_scrinium_api_ErrCorrupt), ("scrinium/api.ErrFuel", laid_scrinium_api_ErrFuel), ("scrinium/api.ErrState", laid_scrinium_api_ErrState), ("scrinium/api.ErrLong", laid_scrinium_api_ErrLong), ("scrinium/api.ErrTwice", laid_scrinium_api_ErrTwice)] }
def SuperSealsSaid : Prop := superSealsRow.holds Tryd.pinned (OpenSpec.ofChange superSealsSpec)

/-- ITS FALSE NEIGHBOUR: 'it returns false'. Refute it at one input. -/
def superSealsWrong : ChangeSpec := { name := "superSeals", fn := fun _ => fun
  | [d1, d2] => { results := [.lit (.bool false)], args := [d1, d2] }
  | _ => none }
def SuperSealsWrongFalsely : Prop := superSealsRow.holds Tryd.pinned (OpenSpec.ofChange superSealsWrong)

/-- 'scriniumlaw06.SuperBack': WHATEVER THE INPUT: true; the input reads as it did. -/
def superBackSpec : ChangeSpec := { name := "superBack", fn := fun _ => fun
  | [d1, d2] => { results := [.lit (.bool true)], args := [d1, d2] }
  | _ => none }
def superBackRow : OpenClaim := { program := "ytaofhdoieffhhaadoor", sum := "8e66797aabd1b83c3fc1de773448e93c34502428aa28c3d700d0f52699b067f5", func := "scrinium/scriniumlaw06.SuperBack", spec := "superBack", inPlace := ["internal/reflectlite.TypeOf"], unfollowed := true, recurses := true, named := ["scrinium/api.ErrRange", "scrinium/api.ErrForm", "scrinium/api.ErrCorrupt", "scrinium/api.ErrFull", "scrinium/api.ErrNone", "scrinium/api.ErrFuel", "scrinium/api.ErrState", "scrinium/api.ErrLong", "scrinium/api.ErrTwice"], apart := false, laid := [("scrinium/api.ErrForm", laid_scrinium_api_ErrForm), ("scrinium/api.ErrRange", laid_scrinium_api_ErrRange), ("scrinium/api.ErrFull", laid_scrinium_api_ErrFull), ("scrinium/api.ErrNone", laid_scrinium_api_ErrNone), ("scrinium/api.ErrCorrupt", laid_scrinium_api_ErrCorrupt), ("scrinium/api.ErrFuel", laid_scrinium_api_ErrFuel), ("scrinium/api.ErrState", laid_scrinium_api_ErrState), ("scrinium/api.ErrLong", laid_scrinium_api_ErrLong), ("scrinium/api.ErrTwice", laid_scrinium_api_ErrTwice)] }
def SuperBackSaid : Prop := superBackRow.holds Tryd.pinned (OpenSpec.ofChange superBackSpec)

/-- ITS FALSE NEIGHBOUR: 'it returns false'. Refute it at one input. -/
def superBackWrong : ChangeSpec := { name := "superBack", fn := fun _ => fun
  | [d1, d2] => { results := [.lit (.bool false)], args := [d1, d2] }
  | _ => none }
def SuperBackWrongFalsely : Prop := superBackRow.holds Tryd.pinned (OpenSpec.ofChange superBackWrong)

/-- 'scriniumlaw05.PageOpens': WHATEVER THE INPUT: true; the input reads as it did. -/
def pageOpensSpec : ChangeSpec := { name := "pageOpens", fn := fun _ => fun
  | [d] => { results := [.lit (.bool true)], args := [d] }
  | _ => none }
def pageOpensRow : OpenClaim := { program := "ytaofhdoieffhhaadoor", sum := "8e66797aabd1b83c3fc1de773448e93c34502428aa28c3d700d0f52699b067f5", func := "scrinium/scriniumlaw05.PageOpens", spec := "pageOpens", inPlace := ["internal/reflectlite.TypeOf", "internal/reflectlite.ValueOf", "(internal/reflectlite.Value).Type", "(internal/reflectlite.Value).IsNil", "(internal/reflectlite.Value).Elem", "(internal/reflectlite.Value).Set"], unfollowed := true, recurses := true, named := ["scrinium/api.ErrRange", "scrinium/api.ErrCorrupt", "scrinium/api.ErrForm", "scrinium/api.ErrFull", "scrinium/api.ErrNone", "scrinium/api.ErrFuel", "scrinium/api.ErrState", "scrinium/api.ErrLong", "scrinium/api.ErrTwice", "errors.errorType"], apart := false, laid := [("errors.errorType", laid_errors_errorType), ("scrinium/api.ErrForm", laid_scrinium_api_ErrForm), ("scrinium/api.ErrRange", laid_scrinium_api_ErrRange), ("scrinium/api.ErrFull", laid_scrinium_api_ErrFull), ("scrinium/api.ErrNone", laid_scrinium_api_ErrNone), ("scrinium/api.ErrCorrupt", laid_scrinium_api_ErrCorrupt), ("scrinium/api.ErrFuel", laid_scrinium_api_ErrFuel), ("scrinium/api.ErrState", laid_scrinium_api_ErrState), ("scrinium/api.ErrLong", laid_scrinium_api_ErrLong), ("scrinium/api.ErrTwice", laid_scrinium_api_ErrTwice)] }
def PageOpensSaid : Prop := pageOpensRow.holds Tryd.pinned (OpenSpec.ofChange pageOpensSpec)

/-- ITS FALSE NEIGHBOUR: 'it returns false'. Refute it at one input. -/
def pageOpensWrong : ChangeSpec := { name := "pageOpens", fn := fun _ => fun
  | [d] => { results := [.lit (.bool false)], args := [d] }
  | _ => none }
def PageOpensWrongFalsely : Prop := pageOpensRow.holds Tryd.pinned (OpenSpec.ofChange pageOpensWrong)

/-- 'scriniumlaw05.PagePlaces': WHATEVER THE INPUT: true; the input reads as it did. -/
def pagePlacesSpec : ChangeSpec := { name := "pagePlaces", fn := fun _ => fun
  | [d1, d2] => { results := [.lit (.bool true)], args := [d1, d2] }
  | _ => none }
def pagePlacesRow : OpenClaim := { program := "ytaofhdoieffhhaadoor", sum := "8e66797aabd1b83c3fc1de773448e93c34502428aa28c3d700d0f52699b067f5", func := "scrinium/scriniumlaw05.PagePlaces", spec := "pagePlaces", inPlace := ["internal/reflectlite.TypeOf", "internal/reflectlite.ValueOf", "(internal/reflectlite.Value).Type", "(internal/reflectlite.Value).IsNil", "(internal/reflectlite.Value).Elem", "(internal/reflectlite.Value).Set"], unfollowed := true, recurses := true, named := ["scrinium/api.ErrCorrupt", "scrinium/api.ErrRange", "scrinium/api.ErrForm", "scrinium/api.ErrFull", "scrinium/api.ErrNone", "scrinium/api.ErrFuel", "scrinium/api.ErrState", "scrinium/api.ErrLong", "scrinium/api.ErrTwice", "errors.errorType"], apart := false, laid := [("errors.errorType", laid_errors_errorType), ("scrinium/api.ErrForm", laid_scrinium_api_ErrForm), ("scrinium/api.ErrRange", laid_scrinium_api_ErrRange), ("scrinium/api.ErrFull", laid_scrinium_api_ErrFull), ("scrinium/api.ErrNone", laid_scrinium_api_ErrNone), ("scrinium/api.ErrCorrupt", laid_scrinium_api_ErrCorrupt), ("scrinium/api.ErrFuel", laid_scrinium_api_ErrFuel), ("scrinium/api.ErrState", laid_scrinium_api_ErrState), ("scrinium/api.ErrLong", laid_scrinium_api_ErrLong), ("scrinium/api.ErrTwice", laid_scrinium_api_ErrTwice)] }
def PagePlacesSaid : Prop := pagePlacesRow.holds Tryd.pinned (OpenSpec.ofChange pagePlacesSpec)

/-- ITS FALSE NEIGHBOUR: 'it returns false'. Refute it at one input. -/
def pagePlacesWrong : ChangeSpec := { name := "pagePlaces", fn := fun _ => fun
  | [d1, d2] => { results := [.lit (.bool false)], args := [d1, d2] }
  | _ => none }
def PagePlacesWrongFalsely : Prop := pagePlacesRow.holds Tryd.pinned (OpenSpec.ofChange pagePlacesWrong)

/-- 'scriniumlaw06.SuperOpens': WHATEVER THE INPUT: true; the input reads as it did. -/
def superOpensSpec : ChangeSpec := { name := "superOpens", fn := fun _ => fun
  | [d1, d2] => { results := [.lit (.bool true)], args := [d1, d2] }
  | _ => none }
def superOpensRow : OpenClaim := { program := "ytaofhdoieffhhaadoor", sum := "8e66797aabd1b83c3fc1de773448e93c34502428aa28c3d700d0f52699b067f5", func := "scrinium/scriniumlaw06.SuperOpens", spec := "superOpens", inPlace := ["internal/reflectlite.TypeOf", "internal/reflectlite.ValueOf", "(internal/reflectlite.Value).Type", "(internal/reflectlite.Value).IsNil", "(internal/reflectlite.Value).Elem", "(internal/reflectlite.Value).Set"], unfollowed := true, recurses := true, named := ["scrinium/api.ErrRange", "scrinium/api.ErrCorrupt", "scrinium/api.ErrForm", "scrinium/api.ErrFull", "scrinium/api.ErrNone", "scrinium/api.ErrFuel", "scrinium/api.ErrState", "scrinium/api.ErrLong", "scrinium/api.ErrTwice", "errors.errorType"], apart := false, laid := [("errors.errorType", laid_errors_errorType), ("scrinium/api.ErrForm", laid_scrinium_api_ErrForm), ("scrinium/api.ErrRange", laid_scrinium_api_ErrRange), ("scrinium/api.ErrFull", laid_scrinium_api_ErrFull), ("scrinium/api.ErrNone", laid_scrinium_api_ErrNone), ("scrinium/api.ErrCorrupt", laid_scrinium_api_ErrCorrupt), ("scrinium/api.ErrFuel", laid_scrinium_api_ErrFuel), ("scrinium/api.ErrState", laid_scrinium_api_ErrState), ("scrinium/api.ErrLong", laid_scrinium_api_ErrLong), ("scrinium/api.ErrTwice", laid_scrinium_api_ErrTwice)] }
def SuperOpensSaid : Prop := superOpensRow.holds Tryd.pinned (OpenSpec.ofChange superOpensSpec)

/-- ITS FALSE NEIGHBOUR: 'it returns false'. Refute it at one input. -/
def superOpensWrong : ChangeSpec := { name := "superOpens", fn := fun _ => fun
  | [d1, d2] => { results := [.lit (.bool false)], args := [d1, d2] }
  | _ => none }
def SuperOpensWrongFalsely : Prop := superOpensRow.holds Tryd.pinned (OpenSpec.ofChange superOpensWrong)

/-- 'scriniumlaw06.SuperChooses': WHATEVER THE INPUT: true; the input reads as it did. -/
def superChoosesSpec : ChangeSpec := { name := "superChooses", fn := fun _ => fun
  | [d1, d2] => { results := [.lit (.bool true)], args := [d1, d2] }
  | _ => none }
def superChoosesRow : OpenClaim := { program := "ytaofhdoieffhhaadoor", sum := "8e66797aabd1b83c3fc1de773448e93c34502428aa28c3d700d0f52699b067f5", func := "scrinium/scriniumlaw06.SuperChooses", spec := "superChooses", inPlace := ["internal/reflectlite.TypeOf", "internal/reflectlite.ValueOf", "(internal/reflectlite.Value).Type", "(internal/reflectlite.Value).IsNil", "(internal/reflectlite.Value).Elem", "(internal/reflectlite.Value).Set"], unfollowed := true, recurses := true, named := ["scrinium/api.ErrCorrupt", "scrinium/api.ErrRange", "scrinium/api.ErrForm", "scrinium/api.ErrFull", "scrinium/api.ErrNone", "scrinium/api.ErrFuel", "scrinium/api.ErrState", "scrinium/api.ErrLong", "scrinium/api.ErrTwice", "errors.errorType"], apart := false, laid := [("errors.errorType", laid_errors_errorType), ("scrinium/api.ErrForm", laid_scrinium_api_ErrForm), ("scrinium/api.ErrRange", laid_scrinium_api_ErrRange), ("scrinium/api.ErrFull", laid_scrinium_api_ErrFull), ("scrinium/api.ErrNone", laid_scrinium_api_ErrNone), ("scrinium/api.ErrCorrupt", laid_scrinium_api_ErrCorrupt), ("scrinium/api.ErrFuel", laid_scrinium_api_ErrFuel), ("scrinium/api.ErrState", laid_scrinium_api_ErrState), ("scrinium/api.ErrLong", laid_scrinium_api_ErrLong), ("scrinium/api.ErrTwice", laid_scrinium_api_ErrTwice)] }
def SuperChoosesSaid : Prop := superChoosesRow.holds Tryd.pinned (OpenSpec.ofChange superChoosesSpec)

/-- ITS FALSE NEIGHBOUR: 'it returns false'. Refute it at one input. -/
def superChoosesWrong : ChangeSpec := { name := "superChooses", fn := fun _ => fun
  | [d1, d2] => { results := [.lit (.bool false)], args := [d1, d2] }
  | _ => none }
def SuperChoosesWrongFalsely : Prop := superChoosesRow.holds Tryd.pinned (OpenSpec.ofChange superChoosesWrong)

/- THE SECOND FORM. 'bulk': how many values and letters a reading holds, each counted each time it is reached (what is shared counts as often as it is met; a slice's spare places count too). A statement '..UptoSaid' is the law's where the arguments, and the package variables that the reading takes, are together of bulk at most 1048576: NARROWER than '..Said'. Prove '..Said' where nothing that the law and all that it calls make is longer than what came in: it says more and counts as full. Else prove '..UptoSaid'. A law counts once. -/
mutual
def uptoBulk {H : Type} : DataW H → Nat
  | .lit (.string bytes) => bytes.length + 1
  | .lit _ => 1
  | .nil => 1
  | .ptr d => uptoBulk d + 1
  | .slice elems spare => uptoBulkAll elems + uptoBulkAll spare + 1
  | .agg parts => uptoBulkAll parts + 1
  | .iface _ d => uptoBulk d + 1
  | .map entries => uptoBulkEntries entries + 1
  | .held _ => 1
def uptoBulkAll {H : Type} : List (DataW H) → Nat
  | [] => 0
  | d :: r => uptoBulk d + uptoBulkAll r
def uptoBulkEntries {H : Type} : List (Lit × DataW H) → Nat
  | [] => 0
  | x :: r => uptoBulkEntry x + uptoBulkEntries r
def uptoBulkEntry {H : Type} : Lit × DataW H → Nat
  | (.string bytes, d) => bytes.length + uptoBulk d + 1
  | (_, d) => uptoBulk d + 1
 end
def uptoSmall : (H : Type) → List (DataW H) → Bool := fun _ ds => decide (uptoBulkAll ds ≤ 1048576)
def OpenSpec.upto (s : _root_.Go.ChangeSpec) : _root_.Go.OpenSpec := { _root_.Go.OpenSpec.ofChange s with cond := some uptoSmall }

/-- 'scriniumlaw05.PageBack', WHERE WHAT IT READS IS OF BULK AT MOST 1048576: true; the input reads as it did. -/
def pageBackUptoRow : OpenClaim := { program := "ytaofhdoieffhhaadoor", sum := "8e66797aabd1b83c3fc1de773448e93c34502428aa28c3d700d0f52699b067f5", func := "scrinium/scriniumlaw05.PageBack", spec := "pageBack", named := ["scrinium/api.ErrRange", "scrinium/api.ErrForm", "scrinium/api.ErrCorrupt"], apart := false, laid := [("scrinium/api.ErrForm", laid_scrinium_api_ErrForm), ("scrinium/api.ErrRange", laid_scrinium_api_ErrRange), ("scrinium/api.ErrCorrupt", laid_scrinium_api_ErrCorrupt)], narrowed := true }
def PageBackUptoSaid : Prop := pageBackUptoRow.holds Tryd.pinned (OpenSpec.upto pageBackSpec)

/-- 'scriniumlaw05.PageSames', WHERE WHAT IT READS IS OF BULK AT MOST 1048576: true; the input reads as it did. -/
def pageSamesUptoRow : OpenClaim := { program := "ytaofhdoieffhhaadoor", sum := "8e66797aabd1b83c3fc1de773448e93c34502428aa28c3d700d0f52699b067f5", func := "scrinium/scriniumlaw05.PageSames", spec := "pageSames", named := ["scrinium/api.ErrRange", "scrinium/api.ErrForm", "scrinium/api.ErrCorrupt"], apart := false, laid := [("scrinium/api.ErrForm", laid_scrinium_api_ErrForm), ("scrinium/api.ErrRange", laid_scrinium_api_ErrRange), ("scrinium/api.ErrCorrupt", laid_scrinium_api_ErrCorrupt)], narrowed := true }
def PageSamesUptoSaid : Prop := pageSamesUptoRow.holds Tryd.pinned (OpenSpec.upto pageSamesSpec)

/-- 'scriniumlaw05.PageSeals', WHERE WHAT IT READS IS OF BULK AT MOST 1048576: true; the input reads as it did. -/
def pageSealsUptoRow : OpenClaim := { program := "ytaofhdoieffhhaadoor", sum := "8e66797aabd1b83c3fc1de773448e93c34502428aa28c3d700d0f52699b067f5", func := "scrinium/scriniumlaw05.PageSeals", spec := "pageSeals", inPlace := ["internal/reflectlite.TypeOf"], unfollowed := true, recurses := true, named := ["scrinium/api.ErrRange", "scrinium/api.ErrForm", "scrinium/api.ErrFull", "scrinium/api.ErrNone", "scrinium/api.ErrCorrupt", "scrinium/api.ErrFuel", "scrinium/api.ErrState", "scrinium/api.ErrLong", "scrinium/api.ErrTwice"], apart := false, laid := [("scrinium/api.ErrForm", laid_scrinium_api_ErrForm), ("scrinium/api.ErrRange", laid_scrinium_api_ErrRange), ("scrinium/api.ErrFull", laid_scrinium_api_ErrFull), ("scrinium/api.ErrNone", laid_scrinium_api_ErrNone), ("scrinium/api.ErrCorrupt", laid_scrinium_api_ErrCorrupt), ("scrinium/api.ErrFuel", laid_scrinium_api_ErrFuel), ("scrinium/api.ErrState", laid_scrinium_api_ErrState), ("scrinium/api.ErrLong", laid_scrinium_api_ErrLong), ("scrinium/api.ErrTwice", laid_scrinium_api_ErrTwice)], narrowed := true }
def PageSealsUptoSaid : Prop := pageSealsUptoRow.holds Tryd.pinned (OpenSpec.upto pageSealsSpec)

/-- 'scriniumlaw05.PageBursts', WHERE WHAT IT READS IS OF BULK AT MOST 1048576: true; the input reads as it did. -/
def pageBurstsUptoRow : OpenClaim := { program := "ytaofhdoieffhhaadoor", sum := "8e66797aabd1b83c3fc1de773448e93c34502428aa28c3d700d0f52699b067f5", func := "scrinium/scriniumlaw05.PageBursts", spec := "pageBursts", inPlace := ["internal/reflectlite.TypeOf"], unfollowed := true, recurses := true, named := ["scrinium/api.ErrRange", "scrinium/api.ErrForm", "scrinium/api.ErrFull", "scrinium/api.ErrNone", "scrinium/api.ErrCorrupt", "scrinium/api.ErrFuel", "scrinium/api.ErrState", "scrinium/api.ErrLong", "scrinium/api.ErrTwice"], apart := false, laid := [("scrinium/api.ErrForm", laid_scrinium_api_ErrForm), ("scrinium/api.ErrRange", laid_scrinium_api_ErrRange), ("scrinium/api.ErrFull", laid_scrinium_api_ErrFull), ("scrinium/api.ErrNone", laid_scrinium_api_ErrNone), ("scrinium/api.ErrCorrupt", laid_scrinium_api_ErrCorrupt), ("scrinium/api.ErrFuel", laid_scrinium_api_ErrFuel), ("scrinium/api.ErrState", laid_scrinium_api_ErrState), ("scrinium/api.ErrLong", laid_scrinium_api_ErrLong), ("scrinium/api.ErrTwice", laid_scrinium_api_ErrTwice)], narrowed := true }
def PageBurstsUptoSaid : Prop := pageBurstsUptoRow.holds Tryd.pinned (OpenSpec.upto pageBurstsSpec)

/-- 'scriniumlaw06.SuperTorn', WHERE WHAT IT READS IS OF BULK AT MOST 1048576: true; the input reads as it did. -/
def superTornUptoRow : OpenClaim := { program := "ytaofhdoieffhhaadoor", sum := "8e66797aabd1b83c3fc1de773448e93c34502428aa28c3d700d0f52699b067f5", func := "scrinium/scriniumlaw06.SuperTorn", spec := "superTorn", named := ["scrinium/api.ErrRange", "scrinium/api.ErrForm", "scrinium/api.ErrCorrupt"], apart := false, laid := [("scrinium/api.ErrForm", laid_scrinium_api_ErrForm), ("scrinium/api.ErrRange", laid_scrinium_api_ErrRange), ("scrinium/api.ErrCorrupt", laid_scrinium_api_ErrCorrupt)], narrowed := true }
def SuperTornUptoSaid : Prop := superTornUptoRow.holds Tryd.pinned (OpenSpec.upto superTornSpec)

/-- 'scriniumlaw06.SuperSeals', WHERE WHAT IT READS IS OF BULK AT MOST 1048576: true; the input reads as it did. -/
def superSealsUptoRow : OpenClaim := { program := "ytaofhdoieffhhaadoor", sum := "8e66797aabd1b83c3fc1de773448e93c34502428aa28c3d700d0f52699b067f5", func := "scrinium/scriniumlaw06.SuperSeals", spec := "superSeals", inPlace := ["internal/reflectlite.TypeOf"], unfollowed := true, recurses := true, named := ["scrinium/api.ErrRange", "scrinium/api.ErrForm", "scrinium/api.ErrFull", "scrinium/api.ErrNone", "scrinium/api.ErrCorrupt", "scrinium/api.ErrFuel", "scrinium/api.ErrState", "scrinium/api.ErrLong", "scrinium/api.ErrTwice"], apart := false, laid := [("scrinium/api.ErrForm", laid_scrinium_api_ErrForm), ("scrinium/api.ErrRange", laid_scrinium_api_ErrRange), ("scrinium/api.ErrFull", laid_scrinium_api_ErrFull), ("scrinium/api.ErrNone", laid_scrinium_api_ErrNone), ("scrinium/api.ErrCorrupt", laid_scrinium_api_ErrCorrupt), ("scrinium/api.ErrFuel", laid_scrinium_api_ErrFuel), ("scrinium/api.ErrState", laid_scrinium_api_ErrState), ("scrinium/api.ErrLong", laid_scrinium_api_ErrLong), ("scrinium/api.ErrTwice", laid_scrinium_api_ErrTwice)], narrowed := true }
def SuperSealsUptoSaid : Prop := superSealsUptoRow.holds Tryd.pinned (OpenSpec.upto superSealsSpec)

/-- 'scriniumlaw06.SuperBack', WHERE WHAT IT READS IS OF BULK AT MOST 1048576: true; the input reads as it did. -/
def superBackUptoRow : OpenClaim := { program := "ytaofhdoieffhhaadoor", sum := "8e66797aabd1b83c3fc1de773448e93c34502428aa28c3d700d0f52699b067f5", func := "scrinium/scriniumlaw06.SuperBack", spec := "superBack", inPlace := ["internal/reflectlite.TypeOf"], unfollowed := true, recurses := true, named := ["scrinium/api.ErrRange", "scrinium/api.ErrForm", "scrinium/api.ErrCorrupt", "scrinium/api.ErrFull", "scrinium/api.ErrNone", "scrinium/api.ErrFuel", "scrinium/api.ErrState", "scrinium/api.ErrLong", "scrinium/api.ErrTwice"], apart := false, laid := [("scrinium/api.ErrForm", laid_scrinium_api_ErrForm), ("scrinium/api.ErrRange", laid_scrinium_api_ErrRange), ("scrinium/api.ErrFull", laid_scrinium_api_ErrFull), ("scrinium/api.ErrNone", laid_scrinium_api_ErrNone), ("scrinium/api.ErrCorrupt", laid_scrinium_api_ErrCorrupt), ("scrinium/api.ErrFuel", laid_scrinium_api_ErrFuel), ("scrinium/api.ErrState", laid_scrinium_api_ErrState), ("scrinium/api.ErrLong", laid_scrinium_api_ErrLong), ("scrinium/api.ErrTwice", laid_scrinium_api_ErrTwice)], narrowed := true }
def SuperBackUptoSaid : Prop := superBackUptoRow.holds Tryd.pinned (OpenSpec.upto superBackSpec)

/-- 'scriniumlaw05.PageOpens', WHERE WHAT IT READS IS OF BULK AT MOST 1048576: true; the input reads as it did. -/
def pageOpensUptoRow : OpenClaim := { program := "ytaofhdoieffhhaadoor", sum := "8e66797aabd1b83c3fc1de773448e93c34502428aa28c3d700d0f52699b067f5", func := "scrinium/scriniumlaw05.PageOpens", spec := "pageOpens", inPlace := ["internal/reflectlite.TypeOf", "internal/reflectlite.ValueOf", "(internal/reflectlite.Value).Type", "(internal/reflectlite.Value).IsNil", "(internal/reflectlite.Value).Elem", "(internal/reflectlite.Value).Set"], unfollowed := true, recurses := true, named := ["scrinium/api.ErrRange", "scrinium/api.ErrCorrupt", "scrinium/api.ErrForm", "scrinium/api.ErrFull", "scrinium/api.ErrNone", "scrinium/api.ErrFuel", "scrinium/api.ErrState", "scrinium/api.ErrLong", "scrinium/api.ErrTwice", "errors.errorType"], apart := false, laid := [("errors.errorType", laid_errors_errorType), ("scrinium/api.ErrForm", laid_scrinium_api_ErrForm), ("scrinium/api.ErrRange", laid_scrinium_api_ErrRange), ("scrinium/api.ErrFull", laid_scrinium_api_ErrFull), ("scrinium/api.ErrNone", laid_scrinium_api_ErrNone), ("scrinium/api.ErrCorrupt", laid_scrinium_api_ErrCorrupt), ("scrinium/api.ErrFuel", laid_scrinium_api_ErrFuel), ("scrinium/api.ErrState", laid_scrinium_api_ErrState), ("scrinium/api.ErrLong", laid_scrinium_api_ErrLong), ("scrinium/api.ErrTwice", laid_scrinium_api_ErrTwice)], narrowed := true }
def PageOpensUptoSaid : Prop := pageOpensUptoRow.holds Tryd.pinned (OpenSpec.upto pageOpensSpec)

/-- 'scriniumlaw05.PagePlaces', WHERE WHAT IT READS IS OF BULK AT MOST 1048576: true; the input reads as it did. -/
def pagePlacesUptoRow : OpenClaim := { program := "ytaofhdoieffhhaadoor", sum := "8e66797aabd1b83c3fc1de773448e93c34502428aa28c3d700d0f52699b067f5", func := "scrinium/scriniumlaw05.PagePlaces", spec := "pagePlaces", inPlace := ["internal/reflectlite.TypeOf", "internal/reflectlite.ValueOf", "(internal/reflectlite.Value).Type", "(internal/reflectlite.Value).IsNil", "(internal/reflectlite.Value).Elem", "(internal/reflectlite.Value).Set"], unfollowed := true, recurses := true, named := ["scrinium/api.ErrCorrupt", "scrinium/api.ErrRange", "scrinium/api.ErrForm", "scrinium/api.ErrFull", "scrinium/api.ErrNone", "scrinium/api.ErrFuel", "scrinium/api.ErrState", "scrinium/api.ErrLong", "scrinium/api.ErrTwice", "errors.errorType"], apart := false, laid := [("errors.errorType", laid_errors_errorType), ("scrinium/api.ErrForm", laid_scrinium_api_ErrForm), ("scrinium/api.ErrRange", laid_scrinium_api_ErrRange), ("scrinium/api.ErrFull", laid_scrinium_api_ErrFull), ("scrinium/api.ErrNone", laid_scrinium_api_ErrNone), ("scrinium/api.ErrCorrupt", laid_scrinium_api_ErrCorrupt), ("scrinium/api.ErrFuel", laid_scrinium_api_ErrFuel), ("scrinium/api.ErrState", laid_scrinium_api_ErrState), ("scrinium/api.ErrLong", laid_scrinium_api_ErrLong), ("scrinium/api.ErrTwice", laid_scrinium_api_ErrTwice)], narrowed := true }
def PagePlacesUptoSaid : Prop := pagePlacesUptoRow.holds Tryd.pinned (OpenSpec.upto pagePlacesSpec)

/-- 'scriniumlaw06.SuperOpens', WHERE WHAT IT READS IS OF BULK AT MOST 1048576: true; the input reads as it did. -/
def superOpensUptoRow : OpenClaim := { program := "ytaofhdoieffhhaadoor", sum := "8e66797aabd1b83c3fc1de773448e93c34502428aa28c3d700d0f52699b067f5", func := "scrinium/scriniumlaw06.SuperOpens", spec := "superOpens", inPlace := ["internal/reflectlite.TypeOf", "internal/reflectlite.ValueOf", "(internal/reflectlite.Value).Type", "(internal/reflectlite.Value).IsNil", "(internal/reflectlite.Value).Elem", "(internal/reflectlite.Value).Set"], unfollowed := true, recurses := true, named := ["scrinium/api.ErrRange", "scrinium/api.ErrCorrupt", "scrinium/api.ErrForm", "scrinium/api.ErrFull", "scrinium/api.ErrNone", "scrinium/api.ErrFuel", "scrinium/api.ErrState", "scrinium/api.ErrLong", "scrinium/api.ErrTwice", "errors.errorType"], apart := false, laid := [("errors.errorType", laid_errors_errorType), ("scrinium/api.ErrForm", laid_scrinium_api_ErrForm), ("scrinium/api.ErrRange", laid_scrinium_api_ErrRange), ("scrinium/api.ErrFull", laid_scrinium_api_ErrFull), ("scrinium/api.ErrNone", laid_scrinium_api_ErrNone), ("scrinium/api.ErrCorrupt", laid_scrinium_api_ErrCorrupt), ("scrinium/api.ErrFuel", laid_scrinium_api_ErrFuel), ("scrinium/api.ErrState", laid_scrinium_api_ErrState), ("scrinium/api.ErrLong", laid_scrinium_api_ErrLong), ("scrinium/api.ErrTwice", laid_scrinium_api_ErrTwice)], narrowed := true }
def SuperOpensUptoSaid : Prop := superOpensUptoRow.holds Tryd.pinned (OpenSpec.upto superOpensSpec)

/-- 'scriniumlaw06.SuperChooses', WHERE WHAT IT READS IS OF BULK AT MOST 1048576: true; the input reads as it did. -/
def superChoosesUptoRow : OpenClaim := { program := "ytaofhdoieffhhaadoor", sum := "8e66797aabd1b83c3fc1de773448e93c34502428aa28c3d700d0f52699b067f5", func := "scrinium/scriniumlaw06.SuperChooses", spec := "superChooses", inPlace := ["internal/reflectlite.TypeOf", "internal/reflectlite.ValueOf", "(internal/reflectlite.Value).Type", "(internal/reflectlite.Value).IsNil", "(internal/reflectlite.Value).Elem", "(internal/reflectlite.Value).Set"], unfollowed := true, recurses := true, named := ["scrinium/api.ErrCorrupt", "scrinium/api.ErrRange", "scrinium/api.ErrForm", "scrinium/api.ErrFull", "scrinium/api.ErrNone", "scrinium/api.ErrFuel", "scrinium/api.ErrState", "scrinium/api.ErrLong", "scrinium/api.ErrTwice", "errors.errorType"], apart := false, laid := [("errors.errorType", laid_errors_errorType), ("scrinium/api.ErrForm", laid_scrinium_api_ErrForm), ("scrinium/api.ErrRange", laid_scrinium_api_ErrRange), ("scrinium/api.ErrFull", laid_scrinium_api_ErrFull), ("scrinium/api.ErrNone", laid_scrinium_api_ErrNone), ("scrinium/api.ErrCorrupt", laid_scrinium_api_ErrCorrupt), ("scrinium/api.ErrFuel", laid_scrinium_api_ErrFuel), ("scrinium/api.ErrState", laid_scrinium_api_ErrState), ("scrinium/api.ErrLong", laid_scrinium_api_ErrLong), ("scrinium/api.ErrTwice", laid_scrinium_api_ErrTwice)], narrowed := true }
def SuperChoosesUptoSaid : Prop := superChoosesUptoRow.holds Tryd.pinned (OpenSpec.upto superChoosesSpec)

end Rows
end Go.Proofs.YtaofhdoieffhhaaDoor
