/-
  NARROWER THAN 'FOR EVERY INPUT', by the rows' own cells (each row's printed sentence says how): EditDeletes: laid · EditRetypes: laid · EditToggles: laid · EditWraps: laid · EditSplits: laid · EditLifts: laid · EditValid: laid · FitValid: laid · FitLetters: laid.
  DERIVED. THE GIVEN ROWS OF THIS SEAT. 9 by the template 'for every input the law returns true; each argument reads behind the call as it read before'; 0 by the template 'total and deterministic' (their statements: YteeindicpbcjaaaGreatDoorTotals.lean).
  GIVEN WITH THE SEED: the statements are not yours to turn. If you find one false, say at which input.
  Laid BY PROGRAM, IN A SANDBOX (cutbox-rows.mjs): the forced cells as the released guide's own fill.sh prints them over the translation 0a78a8ff36e1fbc0… (all of the seat's roots in one cut). By AI agents, Wed Nov 11 2026. No macro, syntax, notation, axiom, sorry.
-/
import Derived.Test.YteeindicpbcjaaaGreatDoorChecked
import GoSem.Claim
import GoSem.ClaimJoined
import GoSem.ClaimMapViews
import Derived.JoinedTies
import Derived.KernelRfl
namespace Go.Proofs.YteeindicpbcjaaaGreatDoor
/- THE CELL 'sum', in the pinned program and in every row, IS THE sha256 OF THE DUMP (.gsa) THAT YteeindicpbcjaaaGreatDoorProg.lean LOADS. Nothing in Lean hashes anything: it is a label: what it is worth is what the hold of that sum in a sandbox is worth. -/
noncomputable def Tryz.pinned : Pinned := { name := "yteeindicpbcjaaagreatdoor", sum := "0a78a8ff36e1fbc0b1bfee536df426924472ec885e287d6305ab6a8cbf215a24", checked := Tryz.checked }
namespace Rows
def none {H : Type} : Left H := { results := [], args := [] }

/- WHAT THE LISTED PACKAGE-LEVEL VARIABLES READ AS WHEN THE CALL BEGINS. Each datum BY PROGRAM (the guide's laid-datum.mjs) off the statement by which the dump's own 'gosem.cut.vars' lays the variable. In a bare row this is a premise. The card (YteeindicpbcjaaaGreatDoorCards.lean) ties it to the program's text. -/
def laid_errors_errorType {H : Type} : DataW H := .iface "internal/reflectlite.rtype" (.agg [.ptr (.lit (.string [101, 114, 114, 111, 114]))])

/-- 'emenderlaw12.EditDeletes': WHATEVER THE INPUT: true; the input reads as it did. -/
def editDeletesSpec : ChangeSpec := { name := "editDeletes", fn := fun _ => fun
  | [d1, d2, d3] => { results := [.lit (.bool true)], args := [d1, d2, d3] }
  | _ => none }
def editDeletesRow : OpenClaim := { program := "yteeindicpbcjaaagreatdoor", sum := "0a78a8ff36e1fbc0b1bfee536df426924472ec885e287d6305ab6a8cbf215a24", func := "emender/emenderlaw12.EditDeletes", spec := "editDeletes", inPlace := ["internal/reflectlite.ValueOf", "(internal/reflectlite.Value).Type", "(internal/reflectlite.Value).IsNil", "internal/reflectlite.TypeOf", "(internal/reflectlite.Value).Elem", "(internal/reflectlite.Value).Set"], unfollowed := true, recurses := true, named := ["errors.errorType"], apart := false, laid := [("errors.errorType", laid_errors_errorType)] }
def EditDeletesSaid : Prop := editDeletesRow.holds Tryz.pinned (OpenSpec.ofChange editDeletesSpec)

/-- ITS FALSE NEIGHBOUR: 'it returns false'. Refute it at one input. -/
def editDeletesWrong : ChangeSpec := { name := "editDeletes", fn := fun _ => fun
  | [d1, d2, d3] => { results := [.lit (.bool false)], args := [d1, d2, d3] }
  | _ => none }
def EditDeletesWrongFalsely : Prop := editDeletesRow.holds Tryz.pinned (OpenSpec.ofChange editDeletesWrong)

/-- 'emenderlaw12.EditRetypes': WHATEVER THE INPUT: true; the input reads as it did. -/
def editRetypesSpec : ChangeSpec := { name := "editRetypes", fn := fun _ => fun
  | [d1, d2, d3, d4] => { results := [.lit (.bool true)], args := [d1, d2, d3, d4] }
  | _ => none }
def editRetypesRow : OpenClaim := { program := "yteeindicpbcjaaagreatdoor", sum := "0a78a8ff36e1fbc0b1bfee536df426924472ec885e287d6305ab6a8cbf215a24", func := "emender/emenderlaw12.EditRetypes", spec := "editRetypes", inPlace := ["internal/reflectlite.ValueOf", "(internal/reflectlite.Value).Type", "(internal/reflectlite.Value).IsNil", "internal/reflectlite.TypeOf", "(internal/reflectlite.Value).Elem", "(internal/reflectlite.Value).Set"], unfollowed := true, recurses := true, named := ["errors.errorType"], apart := false, laid := [("errors.errorType", laid_errors_errorType)] }
def EditRetypesSaid : Prop := editRetypesRow.holds Tryz.pinned (OpenSpec.ofChange editRetypesSpec)

/-- ITS FALSE NEIGHBOUR: 'it returns false'. Refute it at one input. -/
def editRetypesWrong : ChangeSpec := { name := "editRetypes", fn := fun _ => fun
  | [d1, d2, d3, d4] => { results := [.lit (.bool false)], args := [d1, d2, d3, d4] }
  | _ => none }
def EditRetypesWrongFalsely : Prop := editRetypesRow.holds Tryz.pinned (OpenSpec.ofChange editRetypesWrong)

/-- 'emenderlaw12.EditToggles': WHATEVER THE INPUT: true; the input reads as it did. -/
def editTogglesSpec : ChangeSpec := { name := "editToggles", fn := fun _ => fun
  | [d1, d2, d3, d4] => { results := [.lit (.bool true)], args := [d1, d2, d3, d4] }
  | _ => none }
def editTogglesRow : OpenClaim := { program := "yteeindicpbcjaaagreatdoor", sum := "0a78a8ff36e1fbc0b1bfee536df426924472ec885e287d6305ab6a8cbf215a24", func := "emender/emenderlaw12.EditToggles", spec := "editToggles", inPlace := ["internal/reflectlite.ValueOf", "(internal/reflectlite.Value).Type", "(internal/reflectlite.Value).IsNil", "internal/reflectlite.TypeOf", "(internal/reflectlite.Value).Elem", "(internal/reflectlite.Value).Set", "internal/abi.NoEscape"], unfollowed := true, recurses := true, named := ["errors.errorType"], apart := false, laid := [("errors.errorType", laid_errors_errorType)] }
def EditTogglesSaid : Prop := editTogglesRow.holds Tryz.pinned (OpenSpec.ofChange editTogglesSpec)

/-- ITS FALSE NEIGHBOUR: 'it returns false'. Refute it at one input. -/
def editTogglesWrong : ChangeSpec := { name := "editToggles", fn := fun _ => fun
  | [d1, d2, d3, d4] => { results := [.lit (.bool false)], args := [d1, d2, d3, d4] }
  | _ => none }
def EditTogglesWrongFalsely : Prop := editTogglesRow.holds Tryz.pinned (OpenSpec.ofChange editTogglesWrong)

/-- 'emenderlaw12.EditWraps': WHATEVER THE INPUT: true; the input reads as it did. -/
def editWrapsSpec : ChangeSpec := { name := "editWraps", fn := fun _ => fun
  | [d1, d2] => { results := [.lit (.bool true)], args := [d1, d2] }
  | _ => none }
def editWrapsRow : OpenClaim := { program := "yteeindicpbcjaaagreatdoor", sum := "0a78a8ff36e1fbc0b1bfee536df426924472ec885e287d6305ab6a8cbf215a24", func := "emender/emenderlaw12.EditWraps", spec := "editWraps", inPlace := ["internal/reflectlite.ValueOf", "(internal/reflectlite.Value).Type", "(internal/reflectlite.Value).IsNil", "internal/reflectlite.TypeOf", "(internal/reflectlite.Value).Elem", "(internal/reflectlite.Value).Set"], unfollowed := true, recurses := true, named := ["errors.errorType"], apart := false, laid := [("errors.errorType", laid_errors_errorType)] }
def EditWrapsSaid : Prop := editWrapsRow.holds Tryz.pinned (OpenSpec.ofChange editWrapsSpec)

/-- ITS FALSE NEIGHBOUR: 'it returns false'. Refute it at one input. -/
def editWrapsWrong : ChangeSpec := { name := "editWraps", fn := fun _ => fun
  | [d1, d2] => { results := [.lit (.bool false)], args := [d1, d2] }
  | _ => none }
def EditWrapsWrongFalsely : Prop := editWrapsRow.holds Tryz.pinned (OpenSpec.ofChange editWrapsWrong)

/-- 'emenderlaw12.EditSplits': WHATEVER THE INPUT: true; the input reads as it did. -/
def editSplitsSpec : ChangeSpec := { name := "editSplits", fn := fun _ => fun
  | [d1, d2] => { results := [.lit (.bool true)], args := [d1, d2] }
  | _ => none }
def editSplitsRow : OpenClaim := { program := "yteeindicpbcjaaagreatdoor", sum := "0a78a8ff36e1fbc0b1bfee536df426924472ec885e287d6305ab6a8cbf215a24", func := "emender/emenderlaw12.EditSplits", spec := "editSplits", inPlace := ["internal/reflectlite.ValueOf", "(internal/reflectlite.Value).Type", "(internal/reflectlite.Value).IsNil", "internal/reflectlite.TypeOf", "(internal/reflectlite.Value).Elem", "(internal/reflectlite.Value).Set", "internal/abi.NoEscape"], unfollowed := true, recurses := true, named := ["errors.errorType"], apart := false, laid := [("errors.errorType", laid_errors_errorType)] }
def EditSplitsSaid : Prop := editSplitsRow.holds Tryz.pinned (OpenSpec.ofChange editSplitsSpec)

/-- ITS FALSE NEIGHBOUR: 'it returns false'. Refute it at one input. -/
def editSplitsWrong : ChangeSpec := { name := "editSplits", fn := fun _ => fun
  | [d1, d2] => { results := [.lit (.bool false)], args := [d1, d2] }
  | _ => none }
def EditSplitsWrongFalsely : Prop := editSplitsRow.holds Tryz.pinned (OpenSpec.ofChange editSplitsWrong)

/-- 'emenderlaw12.EditLifts': WHATEVER THE INPUT: true; the input reads as it did. -/
def editLiftsSpec : ChangeSpec := { name := "editLifts", fn := fun _ => fun
  | [d1, d2] => { results := [.lit (.bool true)], args := [d1, d2] }
  | _ => none }
def editLiftsRow : OpenClaim := { program := "yteeindicpbcjaaagreatdoor", sum := "0a78a8ff36e1fbc0b1bfee536df426924472ec885e287d6305ab6a8cbf215a24", func := "emender/emenderlaw12.EditLifts", spec := "editLifts", inPlace := ["internal/reflectlite.ValueOf", "(internal/reflectlite.Value).Type", "(internal/reflectlite.Value).IsNil", "internal/reflectlite.TypeOf", "(internal/reflectlite.Value).Elem", "(internal/reflectlite.Value).Set", "internal/abi.NoEscape"], unfollowed := true, recurses := true, named := ["errors.errorType"], apart := false, laid := [("errors.errorType", laid_errors_errorType)] }
def EditLiftsSaid : Prop := editLiftsRow.holds Tryz.pinned (OpenSpec.ofChange editLiftsSpec)

/-- ITS FALSE NEIGHBOUR: 'it returns false'. Refute it at one input. -/
def editLiftsWrong : ChangeSpec := { name := "editLifts", fn := fun _ => fun
  | [d1, d2] => { results := [.lit (.bool false)], args := [d1, d2] }
  | _ => none }
def EditLiftsWrongFalsely : Prop := editLiftsRow.holds Tryz.pinned (OpenSpec.ofChange editLiftsWrong)

/-- 'emenderlaw12.EditValid': WHATEVER THE INPUT: true; the input reads as it did. -/
def editValidSpec : ChangeSpec := { name := "editValid", fn := fun _ => fun
  | [d1, d2] => { results := [.lit (.bool true)], args := [d1, d2] }
  | _ => none }
def editValidRow : OpenClaim := { program := "yteeindicpbcjaaagreatdoor", sum := "0a78a8ff36e1fbc0b1bfee536df426924472ec885e287d6305ab6a8cbf215a24", func := "emender/emenderlaw12.EditValid", spec := "editValid", inPlace := ["internal/reflectlite.ValueOf", "(internal/reflectlite.Value).Type", "(internal/reflectlite.Value).IsNil", "internal/reflectlite.TypeOf", "(internal/reflectlite.Value).Elem", "(internal/reflectlite.Value).Set"], unfollowed := true, recurses := true, named := ["errors.errorType"], apart := false, laid := [("errors.errorType", laid_errors_errorType)] }
def EditValidSaid : Prop := editValidRow.holds Tryz.pinned (OpenSpec.ofChange editValidSpec)

/-- ITS FALSE NEIGHBOUR: 'it returns false'. Refute it at one input. -/
def editValidWrong : ChangeSpec := { name := "editValid", fn := fun _ => fun
  | [d1, d2] => { results := [.lit (.bool false)], args := [d1, d2] }
  | _ => none }
def EditValidWrongFalsely : Prop := editValidRow.holds Tryz.pinned (OpenSpec.ofChange editValidWrong)

/-- 'emenderlaw13.FitValid': WHATEVER THE INPUT: true; the input reads as it did. -/
def fitValidSpec : ChangeSpec := { name := "fitValid", fn := fun _ => fun
  | [d1, d2, d3, d4] => { results := [.lit (.bool true)], args := [d1, d2, d3, d4] }
  | _ => none }
def fitValidRow : OpenClaim := { program := "yteeindicpbcjaaagreatdoor", sum := "0a78a8ff36e1fbc0b1bfee536df426924472ec885e287d6305ab6a8cbf215a24", func := "emender/emenderlaw13.FitValid", spec := "fitValid", inPlace := ["internal/reflectlite.ValueOf", "(internal/reflectlite.Value).Type", "(internal/reflectlite.Value).IsNil", "internal/reflectlite.TypeOf", "(internal/reflectlite.Value).Elem", "(internal/reflectlite.Value).Set"], unfollowed := true, recurses := true, named := ["errors.errorType"], apart := false, laid := [("errors.errorType", laid_errors_errorType)] }
def FitValidSaid : Prop := fitValidRow.holds Tryz.pinned (OpenSpec.ofChange fitValidSpec)

/-- ITS FALSE NEIGHBOUR: 'it returns false'. Refute it at one input. -/
def fitValidWrong : ChangeSpec := { name := "fitValid", fn := fun _ => fun
  | [d1, d2, d3, d4] => { results := [.lit (.bool false)], args := [d1, d2, d3, d4] }
  | _ => none }
def FitValidWrongFalsely : Prop := fitValidRow.holds Tryz.pinned (OpenSpec.ofChange fitValidWrong)

/-- 'emenderlaw13.FitLetters': WHATEVER THE INPUT: true; the input reads as it did. -/
def fitLettersSpec : ChangeSpec := { name := "fitLetters", fn := fun _ => fun
  | [d1, d2, d3] => { results := [.lit (.bool true)], args := [d1, d2, d3] }
  | _ => none }
def fitLettersRow : OpenClaim := { program := "yteeindicpbcjaaagreatdoor", sum := "0a78a8ff36e1fbc0b1bfee536df426924472ec885e287d6305ab6a8cbf215a24", func := "emender/emenderlaw13.FitLetters", spec := "fitLetters", inPlace := ["internal/reflectlite.ValueOf", "(internal/reflectlite.Value).Type", "(internal/reflectlite.Value).IsNil", "internal/reflectlite.TypeOf", "(internal/reflectlite.Value).Elem", "(internal/reflectlite.Value).Set"], unfollowed := true, recurses := true, named := ["errors.errorType"], apart := false, laid := [("errors.errorType", laid_errors_errorType)] }
def FitLettersSaid : Prop := fitLettersRow.holds Tryz.pinned (OpenSpec.ofChange fitLettersSpec)

/-- ITS FALSE NEIGHBOUR: 'it returns false'. Refute it at one input. -/
def fitLettersWrong : ChangeSpec := { name := "fitLetters", fn := fun _ => fun
  | [d1, d2, d3] => { results := [.lit (.bool false)], args := [d1, d2, d3] }
  | _ => none }
def FitLettersWrongFalsely : Prop := fitLettersRow.holds Tryz.pinned (OpenSpec.ofChange fitLettersWrong)

/- THE SECOND FORM. 'bulk': how many values and letters a reading holds, each counted each time it is reached (what is shared counts as often as it is met; a slice's spare places count too). A statement '..UptoSaid' is the law's where the arguments, and the package variables that the reading takes, are together of bulk at most 1048576: NARROWER than '..Said'. Prove '..Said' where nothing that the law and all that it calls make is longer than what came in: it says more and counts as full. Else prove '..UptoSaid'. A law counts once. -/
mutual
def uptoBulk {H : Type} : DataW H → Nat
  | .lit (.string bytes) => bytes.length + 1
  | .lit _ => 1
  | .nil => 1
  | .ptr d => uptoBulk d + 1
  | .slice elems spare => uptoBulkAll elems + uptoBulkAll spare + 1
  | .agg parts => uptoBulkAll parts + 1
  | .iface _ d => uptoBulk d + 1
  | .map entries => uptoBulkEntries entries + 1
  | .held _ => 1
def uptoBulkAll {H : Type} : List (DataW H) → Nat
  | [] => 0
  | d :: r => uptoBulk d + uptoBulkAll r
def uptoBulkEntries {H : Type} : List (Lit × DataW H) → Nat
  | [] => 0
  | x :: r => uptoBulkEntry x + uptoBulkEntries r
def uptoBulkEntry {H : Type} : Lit × DataW H → Nat
  | (.string bytes, d) => bytes.length + uptoBulk d + 1
  | (_, d) => uptoBulk d + 1
 end
def uptoSmall : (H : Type) → List (DataW H) → Bool := fun _ ds => decide (uptoBulkAll ds ≤ 1048576)
def OpenSpec.upto (s : _root_.Go.ChangeSpec) : _root_.Go.OpenSpec := { _root_.Go.OpenSpec.ofChange s with cond := some uptoSmall }

/-- 'emenderlaw12.EditDeletes', WHERE WHAT IT READS IS OF BULK AT MOST 1048576: true; the input reads as it did. -/
def editDeletesUptoRow : OpenClaim := { program := "yteeindicpbcjaaagreatdoor", sum := "0a78a8ff36e1fbc0b1bfee536df426924472ec885e287d6305ab6a8cbf215a24", func := "emender/emenderlaw12.EditDeletes", spec := "editDeletes", inPlace := ["internal/reflectlite.ValueOf", "(internal/reflectlite.Value).Type", "(internal/reflectlite.Value).IsNil", "internal/reflectlite.TypeOf", "(internal/reflectlite.Value).Elem", "(internal/reflectlite.Value).Set"], unfollowed := true, recurses := true, named := ["errors.errorType"], apart := false, laid := [("errors.errorType", laid_errors_errorType)], narrowed := true }
def EditDeletesUptoSaid : Prop := editDeletesUptoRow.holds Tryz.pinned (OpenSpec.upto editDeletesSpec)

/-- 'emenderlaw12.EditRetypes', WHERE WHAT IT READS IS OF BULK AT MOST 1048576: true; the input reads as it did. -/
def editRetypesUptoRow : OpenClaim := { program := "yteeindicpbcjaaagreatdoor", sum := "0a78a8ff36e1fbc0b1bfee536df426924472ec885e287d6305ab6a8cbf215a24", func := "emender/emenderlaw12.EditRetypes", spec := "editRetypes", inPlace := ["internal/reflectlite.ValueOf", "(internal/reflectlite.Value).Type", "(internal/reflectlite.Value).IsNil", "internal/reflectlite.TypeOf", "(internal/reflectlite.Value).Elem", "(internal/reflectlite.Value).Set"], unfollowed := true, recurses := true, named := ["errors.errorType"], apart := false, laid := [("errors.errorType", laid_errors_errorType)], narrowed := true }
def EditRetypesUptoSaid : Prop := editRetypesUptoRow.holds Tryz.pinned (OpenSpec.upto editRetypesSpec)

/-- 'emenderlaw12.EditToggles', WHERE WHAT IT READS IS OF BULK AT MOST 1048576: true; the input reads as it did. -/
def editTogglesUptoRow : OpenClaim := { program := "yteeindicpbcjaaagreatdoor", sum := "0a78a8ff36e1fbc0b1bfee536df426924472ec885e287d6305ab6a8cbf215a24", func := "emender/emenderlaw12.EditToggles", spec := "editToggles", inPlace := ["internal/reflectlite.ValueOf", "(internal/reflectlite.Value).Type", "(internal/reflectlite.Value).IsNil", "internal/reflectlite.TypeOf", "(internal/reflectlite.Value).Elem", "(internal/reflectlite.Value).Set", "internal/abi.NoEscape"], unfollowed := true, recurses := true, named := ["errors.errorType"], apart := false, laid := [("errors.errorType", laid_errors_errorType)], narrowed := true }
def EditTogglesUptoSaid : Prop := editTogglesUptoRow.holds Tryz.pinned (OpenSpec.upto editTogglesSpec)

/-- 'emenderlaw12.EditWraps', WHERE WHAT IT READS IS OF BULK AT MOST 1048576: true; the input reads as it did. -/
def editWrapsUptoRow : OpenClaim := { program := "yteeindicpbcjaaagreatdoor", sum := "0a78a8ff36e1fbc0b1bfee536df426924472ec885e287d6305ab6a8cbf215a24", func := "emender/emenderlaw12.EditWraps", spec := "editWraps", inPlace := ["internal/reflectlite.ValueOf", "(internal/reflectlite.Value).Type", "(internal/reflectlite.Value).IsNil", "internal/reflectlite.TypeOf", "(internal/reflectlite.Value).Elem", "(internal/reflectlite.Value).Set"], unfollowed := true, recurses := true, named := ["errors.errorType"], apart := false, laid := [("errors.errorType", laid_errors_errorType)], narrowed := true }
def EditWrapsUptoSaid : Prop := editWrapsUptoRow.holds Tryz.pinned (OpenSpec.upto editWrapsSpec)

/-- 'emenderlaw12.EditSplits', WHERE WHAT IT READS IS OF BULK AT MOST 1048576: true; the input reads as it did. -/
def editSplitsUptoRow : OpenClaim := { program := "yteeindicpbcjaaagreatdoor", sum := "0a78a8ff36e1fbc0b1bfee536df426924472ec885e287d6305ab6a8cbf215a24", func := "emender/emenderlaw12.EditSplits", spec := "editSplits", inPlace := ["internal/reflectlite.ValueOf", "(internal/reflectlite.Value).Type", "(internal/reflectlite.Value).IsNil", "internal/reflectlite.TypeOf", "(internal/reflectlite.Value).Elem", "(internal/reflectlite.Value).Set", "internal/abi.NoEscape"], unfollowed := true, recurses := true, named := ["errors.errorType"], apart := false, laid := [("errors.errorType", laid_errors_errorType)], narrowed := true }
def EditSplitsUptoSaid : Prop := editSplitsUptoRow.holds Tryz.pinned (OpenSpec.upto editSplitsSpec)

/-- 'emenderlaw12.EditLifts', WHERE WHAT IT READS IS OF BULK AT MOST 1048576: true; the input reads as it did. -/
def editLiftsUptoRow : OpenClaim := { program := "yteeindicpbcjaaagreatdoor", sum := "0a78a8ff36e1fbc0b1bfee536df426924472ec885e287d6305ab6a8cbf215a24", func := "emender/emenderlaw12.EditLifts", spec := "editLifts", inPlace := ["internal/reflectlite.ValueOf", "(internal/reflectlite.Value).Type", "(internal/reflectlite.Value).IsNil", "internal/reflectlite.TypeOf", "(internal/reflectlite.Value).Elem", "(internal/reflectlite.Value).Set", "internal/abi.NoEscape"], unfollowed := true, recurses := true, named := ["errors.errorType"], apart := false, laid := [("errors.errorType", laid_errors_errorType)], narrowed := true }
def EditLiftsUptoSaid : Prop := editLiftsUptoRow.holds Tryz.pinned (OpenSpec.upto editLiftsSpec)

/-- 'emenderlaw12.EditValid', WHERE WHAT IT READS IS OF BULK AT MOST 1048576: true; the input reads as it did. -/
def editValidUptoRow : OpenClaim := { program := "yteeindicpbcjaaagreatdoor", sum := "0a78a8ff36e1fbc0b1bfee536df426924472ec885e287d6305ab6a8cbf215a24", func := "emender/emenderlaw12.EditValid", spec := "editValid", inPlace := ["internal/reflectlite.ValueOf", "(internal/reflectlite.Value).Type", "(internal/reflectlite.Value).IsNil", "internal/reflectlite.TypeOf", "(internal/reflectlite.Value).Elem", "(internal/reflectlite.Value).Set"], unfollowed := true, recurses := true, named := ["errors.errorType"], apart := false, laid := [("errors.errorType", laid_errors_errorType)], narrowed := true }
def EditValidUptoSaid : Prop := editValidUptoRow.holds Tryz.pinned (OpenSpec.upto editValidSpec)

/-- 'emenderlaw13.FitValid', WHERE WHAT IT READS IS OF BULK AT MOST 1048576: true; the input reads as it did. -/
def fitValidUptoRow : OpenClaim := { program := "yteeindicpbcjaaagreatdoor", sum := "0a78a8ff36e1fbc0b1bfee536df426924472ec885e287d6305ab6a8cbf215a24", func := "emender/emenderlaw13.FitValid", spec := "fitValid", inPlace := ["internal/reflectlite.ValueOf", "(internal/reflectlite.Value).Type", "(internal/reflectlite.Value).IsNil", "internal/reflectlite.TypeOf", "(internal/reflectlite.Value).Elem", "(internal/reflectlite.Value).Set"], unfollowed := true, recurses := true, named := ["errors.errorType"], apart := false, laid := [("errors.errorType", laid_errors_errorType)], narrowed := true }
def FitValidUptoSaid : Prop := fitValidUptoRow.holds Tryz.pinned (OpenSpec.upto fitValidSpec)

/-- 'emenderlaw13.FitLetters', WHERE WHAT IT READS IS OF BULK AT MOST 1048576: true; the input reads as it did. -/
def fitLettersUptoRow : OpenClaim := { program := "yteeindicpbcjaaagreatdoor", sum := "0a78a8ff36e1fbc0b1bfee536df426924472ec885e287d6305ab6a8cbf215a24", func := "emender/emenderlaw13.FitLetters", spec := "fitLetters", inPlace := ["internal/reflectlite.ValueOf", "(internal/reflectlite.Value).Type", "(internal/reflectlite.Value).IsNil", "internal/reflectlite.TypeOf", "(internal/reflectlite.Value).Elem", "(internal/reflectlite.Value).Set"], unfollowed := true, recurses := true, named := ["errors.errorType"], apart := false, laid := [("errors.errorType", laid_errors_errorType)], narrowed := true }
def FitLettersUptoSaid : Prop := fitLettersUptoRow.holds Tryz.pinned (OpenSpec.upto fitLettersSpec)

end Rows
end Go.Proofs.YteeindicpbcjaaaGreatDoor
