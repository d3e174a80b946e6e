/-
  NARROWER THAN 'FOR EVERY INPUT', by the rows' own cells (each row's printed sentence says how): SchemaChecks: laid · CaretAsks: laid · EditTexts: laid · EditRanges: laid · FitFits: laid · EditBlocks: laid · NestItems: laid · NestPuts: laid · EditDoes: laid.
  DERIVED. THE GIVEN ROWS OF THIS SEAT. 9 by the template 'for every input the law returns true; each argument reads behind the call as it read before'; 0 by the template 'total and deterministic' (their statements: YtofjodppljnlaaaGreatDoorTotals.lean).
  GIVEN WITH THE SEED: the statements are not yours to turn. If you find one false, say at which input.
  Laid BY PROGRAM, IN A SANDBOX (cutbox-rows.mjs): the forced cells as the released guide's own fill.sh prints them over the translation 0c1792d13e15c919… (all of the seat's roots in one cut). By AI agents, Wed Nov 11 2026. No macro, syntax, notation, axiom, sorry.
-/
import Derived.Test.YtofjodppljnlaaaGreatDoorChecked
import GoSem.Claim
import GoSem.ClaimJoined
import GoSem.ClaimMapViews
import Derived.JoinedTies
import Derived.KernelRfl
namespace Go.Proofs.YtofjodppljnlaaaGreatDoor
/- THE CELL 'sum', in the pinned program and in every row, IS THE sha256 OF THE DUMP (.gsa) THAT YtofjodppljnlaaaGreatDoorProg.lean LOADS. Nothing in Lean hashes anything: it is a label: what it is worth is what the hold of that sum in a sandbox is worth. -/
noncomputable def Tryz.pinned : Pinned := { name := "ytofjodppljnlaaagreatdoor", sum := "0c1792d13e15c919aaebe971237fb5e867a708db85e8828c50927c8b64625e12", checked := Tryz.checked }
namespace Rows
def none {H : Type} : Left H := { results := [], args := [] }

/- WHAT THE LISTED PACKAGE-LEVEL VARIABLES READ AS WHEN THE CALL BEGINS. Each datum BY PROGRAM (the guide's laid-datum.mjs) off the statement by which the dump's own 'gosem.cut.vars' lays the variable. In a bare row this is a premise. The card (YtofjodppljnlaaaGreatDoorCards.lean) ties it to the program's text. -/
def laid_errors_errorType {H : Type} : DataW H := .iface "internal/reflectlite.rtype" (.agg [.ptr (.lit (.string [101, 114, 114, 111, 114]))])

/-- 'emenderlaw07.SchemaChecks': WHATEVER THE INPUT: true; the input reads as it did. -/
def schemaChecksSpec : ChangeSpec := { name := "schemaChecks", fn := fun _ => fun
  | [d1, d2, d3] => { results := [.lit (.bool true)], args := [d1, d2, d3] }
  | _ => none }
def schemaChecksRow : OpenClaim := { program := "ytofjodppljnlaaagreatdoor", sum := "0c1792d13e15c919aaebe971237fb5e867a708db85e8828c50927c8b64625e12", func := "emender/emenderlaw07.SchemaChecks", spec := "schemaChecks", inPlace := ["internal/reflectlite.ValueOf", "(internal/reflectlite.Value).Type", "(internal/reflectlite.Value).IsNil", "internal/reflectlite.TypeOf", "(internal/reflectlite.Value).Elem", "(internal/reflectlite.Value).Set"], unfollowed := true, recurses := true, named := ["errors.errorType"], apart := false, laid := [("errors.errorType", laid_errors_errorType)] }
def SchemaChecksSaid : Prop := schemaChecksRow.holds Tryz.pinned (OpenSpec.ofChange schemaChecksSpec)

/-- ITS FALSE NEIGHBOUR: 'it returns false'. Refute it at one input. -/
def schemaChecksWrong : ChangeSpec := { name := "schemaChecks", fn := fun _ => fun
  | [d1, d2, d3] => { results := [.lit (.bool false)], args := [d1, d2, d3] }
  | _ => none }
def SchemaChecksWrongFalsely : Prop := schemaChecksRow.holds Tryz.pinned (OpenSpec.ofChange schemaChecksWrong)

/-- 'emenderlaw11.CaretAsks': WHATEVER THE INPUT: true; the input reads as it did. -/
def caretAsksSpec : ChangeSpec := { name := "caretAsks", fn := fun _ => fun
  | [d1, d2, d3, d4] => { results := [.lit (.bool true)], args := [d1, d2, d3, d4] }
  | _ => none }
def caretAsksRow : OpenClaim := { program := "ytofjodppljnlaaagreatdoor", sum := "0c1792d13e15c919aaebe971237fb5e867a708db85e8828c50927c8b64625e12", func := "emender/emenderlaw11.CaretAsks", spec := "caretAsks", inPlace := ["internal/reflectlite.ValueOf", "(internal/reflectlite.Value).Type", "(internal/reflectlite.Value).IsNil", "internal/reflectlite.TypeOf", "(internal/reflectlite.Value).Elem", "(internal/reflectlite.Value).Set"], unfollowed := true, recurses := true, named := ["errors.errorType"], apart := false, laid := [("errors.errorType", laid_errors_errorType)] }
def CaretAsksSaid : Prop := caretAsksRow.holds Tryz.pinned (OpenSpec.ofChange caretAsksSpec)

/-- ITS FALSE NEIGHBOUR: 'it returns false'. Refute it at one input. -/
def caretAsksWrong : ChangeSpec := { name := "caretAsks", fn := fun _ => fun
  | [d1, d2, d3, d4] => { results := [.lit (.bool false)], args := [d1, d2, d3, d4] }
  | _ => none }
def CaretAsksWrongFalsely : Prop := caretAsksRow.holds Tryz.pinned (OpenSpec.ofChange caretAsksWrong)

/-- 'emenderlaw12.EditTexts': WHATEVER THE INPUT: true; the input reads as it did. -/
def editTextsSpec : ChangeSpec := { name := "editTexts", fn := fun _ => fun
  | [d1, d2, d3, d4] => { results := [.lit (.bool true)], args := [d1, d2, d3, d4] }
  | _ => none }
def editTextsRow : OpenClaim := { program := "ytofjodppljnlaaagreatdoor", sum := "0c1792d13e15c919aaebe971237fb5e867a708db85e8828c50927c8b64625e12", func := "emender/emenderlaw12.EditTexts", spec := "editTexts", inPlace := ["internal/reflectlite.ValueOf", "(internal/reflectlite.Value).Type", "(internal/reflectlite.Value).IsNil", "internal/reflectlite.TypeOf", "(internal/reflectlite.Value).Elem", "(internal/reflectlite.Value).Set"], unfollowed := true, recurses := true, named := ["errors.errorType"], apart := false, laid := [("errors.errorType", laid_errors_errorType)] }
def EditTextsSaid : Prop := editTextsRow.holds Tryz.pinned (OpenSpec.ofChange editTextsSpec)

/-- ITS FALSE NEIGHBOUR: 'it returns false'. Refute it at one input. -/
def editTextsWrong : ChangeSpec := { name := "editTexts", fn := fun _ => fun
  | [d1, d2, d3, d4] => { results := [.lit (.bool false)], args := [d1, d2, d3, d4] }
  | _ => none }
def EditTextsWrongFalsely : Prop := editTextsRow.holds Tryz.pinned (OpenSpec.ofChange editTextsWrong)

/-- 'emenderlaw12.EditRanges': WHATEVER THE INPUT: true; the input reads as it did. -/
def editRangesSpec : ChangeSpec := { name := "editRanges", fn := fun _ => fun
  | [d1, d2, d3, d4, d5] => { results := [.lit (.bool true)], args := [d1, d2, d3, d4, d5] }
  | _ => none }
def editRangesRow : OpenClaim := { program := "ytofjodppljnlaaagreatdoor", sum := "0c1792d13e15c919aaebe971237fb5e867a708db85e8828c50927c8b64625e12", func := "emender/emenderlaw12.EditRanges", spec := "editRanges", inPlace := ["internal/reflectlite.ValueOf", "(internal/reflectlite.Value).Type", "(internal/reflectlite.Value).IsNil", "internal/reflectlite.TypeOf", "(internal/reflectlite.Value).Elem", "(internal/reflectlite.Value).Set"], unfollowed := true, recurses := true, named := ["errors.errorType"], apart := false, laid := [("errors.errorType", laid_errors_errorType)] }
def EditRangesSaid : Prop := editRangesRow.holds Tryz.pinned (OpenSpec.ofChange editRangesSpec)

/-- ITS FALSE NEIGHBOUR: 'it returns false'. Refute it at one input. -/
def editRangesWrong : ChangeSpec := { name := "editRanges", fn := fun _ => fun
  | [d1, d2, d3, d4, d5] => { results := [.lit (.bool false)], args := [d1, d2, d3, d4, d5] }
  | _ => none }
def EditRangesWrongFalsely : Prop := editRangesRow.holds Tryz.pinned (OpenSpec.ofChange editRangesWrong)

/-- 'emenderlaw13.FitFits': WHATEVER THE INPUT: true; the input reads as it did. -/
def fitFitsSpec : ChangeSpec := { name := "fitFits", fn := fun _ => fun
  | [d1, d2, d3, d4] => { results := [.lit (.bool true)], args := [d1, d2, d3, d4] }
  | _ => none }
def fitFitsRow : OpenClaim := { program := "ytofjodppljnlaaagreatdoor", sum := "0c1792d13e15c919aaebe971237fb5e867a708db85e8828c50927c8b64625e12", func := "emender/emenderlaw13.FitFits", spec := "fitFits", inPlace := ["internal/reflectlite.ValueOf", "(internal/reflectlite.Value).Type", "(internal/reflectlite.Value).IsNil", "internal/reflectlite.TypeOf", "(internal/reflectlite.Value).Elem", "(internal/reflectlite.Value).Set"], unfollowed := true, recurses := true, named := ["errors.errorType"], apart := false, laid := [("errors.errorType", laid_errors_errorType)] }
def FitFitsSaid : Prop := fitFitsRow.holds Tryz.pinned (OpenSpec.ofChange fitFitsSpec)

/-- ITS FALSE NEIGHBOUR: 'it returns false'. Refute it at one input. -/
def fitFitsWrong : ChangeSpec := { name := "fitFits", fn := fun _ => fun
  | [d1, d2, d3, d4] => { results := [.lit (.bool false)], args := [d1, d2, d3, d4] }
  | _ => none }
def FitFitsWrongFalsely : Prop := fitFitsRow.holds Tryz.pinned (OpenSpec.ofChange fitFitsWrong)

/-- 'emenderlaw12.EditBlocks': WHATEVER THE INPUT: true; the input reads as it did. -/
def editBlocksSpec : ChangeSpec := { name := "editBlocks", fn := fun _ => fun
  | [d1, d2, d3, d4] => { results := [.lit (.bool true)], args := [d1, d2, d3, d4] }
  | _ => none }
def editBlocksRow : OpenClaim := { program := "ytofjodppljnlaaagreatdoor", sum := "0c1792d13e15c919aaebe971237fb5e867a708db85e8828c50927c8b64625e12", func := "emender/emenderlaw12.EditBlocks", spec := "editBlocks", inPlace := ["internal/reflectlite.ValueOf", "(internal/reflectlite.Value).Type", "(internal/reflectlite.Value).IsNil", "internal/reflectlite.TypeOf", "(internal/reflectlite.Value).Elem", "(internal/reflectlite.Value).Set"], unfollowed := true, recurses := true, named := ["errors.errorType"], apart := false, laid := [("errors.errorType", laid_errors_errorType)] }
def EditBlocksSaid : Prop := editBlocksRow.holds Tryz.pinned (OpenSpec.ofChange editBlocksSpec)

/-- ITS FALSE NEIGHBOUR: 'it returns false'. Refute it at one input. -/
def editBlocksWrong : ChangeSpec := { name := "editBlocks", fn := fun _ => fun
  | [d1, d2, d3, d4] => { results := [.lit (.bool false)], args := [d1, d2, d3, d4] }
  | _ => none }
def EditBlocksWrongFalsely : Prop := editBlocksRow.holds Tryz.pinned (OpenSpec.ofChange editBlocksWrong)

/-- 'emenderlaw27.NestItems': WHATEVER THE INPUT: true; the input reads as it did. -/
def nestItemsSpec : ChangeSpec := { name := "nestItems", fn := fun _ => fun
  | [d1, d2] => { results := [.lit (.bool true)], args := [d1, d2] }
  | _ => none }
def nestItemsRow : OpenClaim := { program := "ytofjodppljnlaaagreatdoor", sum := "0c1792d13e15c919aaebe971237fb5e867a708db85e8828c50927c8b64625e12", func := "emender/emenderlaw27.NestItems", spec := "nestItems", inPlace := ["internal/reflectlite.ValueOf", "(internal/reflectlite.Value).Type", "(internal/reflectlite.Value).IsNil", "internal/reflectlite.TypeOf", "(internal/reflectlite.Value).Elem", "(internal/reflectlite.Value).Set"], unfollowed := true, recurses := true, named := ["errors.errorType"], apart := false, laid := [("errors.errorType", laid_errors_errorType)] }
def NestItemsSaid : Prop := nestItemsRow.holds Tryz.pinned (OpenSpec.ofChange nestItemsSpec)

/-- ITS FALSE NEIGHBOUR: 'it returns false'. Refute it at one input. -/
def nestItemsWrong : ChangeSpec := { name := "nestItems", fn := fun _ => fun
  | [d1, d2] => { results := [.lit (.bool false)], args := [d1, d2] }
  | _ => none }
def NestItemsWrongFalsely : Prop := nestItemsRow.holds Tryz.pinned (OpenSpec.ofChange nestItemsWrong)

/-- 'emenderlaw27.NestPuts': WHATEVER THE INPUT: true; the input reads as it did. -/
def nestPutsSpec : ChangeSpec := { name := "nestPuts", fn := fun _ => fun
  | [d1, d2, d3] => { results := [.lit (.bool true)], args := [d1, d2, d3] }
  | _ => none }
def nestPutsRow : OpenClaim := { program := "ytofjodppljnlaaagreatdoor", sum := "0c1792d13e15c919aaebe971237fb5e867a708db85e8828c50927c8b64625e12", func := "emender/emenderlaw27.NestPuts", spec := "nestPuts", inPlace := ["internal/reflectlite.ValueOf", "(internal/reflectlite.Value).Type", "(internal/reflectlite.Value).IsNil", "internal/reflectlite.TypeOf", "(internal/reflectlite.Value).Elem", "(internal/reflectlite.Value).Set"], unfollowed := true, recurses := true, named := ["errors.errorType"], apart := false, laid := [("errors.errorType", laid_errors_errorType)] }
def NestPutsSaid : Prop := nestPutsRow.holds Tryz.pinned (OpenSpec.ofChange nestPutsSpec)

/-- ITS FALSE NEIGHBOUR: 'it returns false'. Refute it at one input. -/
def nestPutsWrong : ChangeSpec := { name := "nestPuts", fn := fun _ => fun
  | [d1, d2, d3] => { results := [.lit (.bool false)], args := [d1, d2, d3] }
  | _ => none }
def NestPutsWrongFalsely : Prop := nestPutsRow.holds Tryz.pinned (OpenSpec.ofChange nestPutsWrong)

/-- 'emenderlaw12.EditDoes': WHATEVER THE INPUT: true; the input reads as it did. -/
def editDoesSpec : ChangeSpec := { name := "editDoes", fn := fun _ => fun
  | [d1, d2] => { results := [.lit (.bool true)], args := [d1, d2] }
  | _ => none }
def editDoesRow : OpenClaim := { program := "ytofjodppljnlaaagreatdoor", sum := "0c1792d13e15c919aaebe971237fb5e867a708db85e8828c50927c8b64625e12", func := "emender/emenderlaw12.EditDoes", spec := "editDoes", inPlace := ["internal/reflectlite.ValueOf", "(internal/reflectlite.Value).Type", "(internal/reflectlite.Value).IsNil", "internal/reflectlite.TypeOf", "(internal/reflectlite.Value).Elem", "(internal/reflectlite.Value).Set"], unfollowed := true, recurses := true, named := ["errors.errorType"], apart := false, laid := [("errors.errorType", laid_errors_errorType)] }
def EditDoesSaid : Prop := editDoesRow.holds Tryz.pinned (OpenSpec.ofChange editDoesSpec)

/-- ITS FALSE NEIGHBOUR: 'it returns false'. Refute it at one input. -/
def editDoesWrong : ChangeSpec := { name := "editDoes", fn := fun _ => fun
  | [d1, d2] => { results := [.lit (.bool false)], args := [d1, d2] }
  | _ => none }
def EditDoesWrongFalsely : Prop := editDoesRow.holds Tryz.pinned (OpenSpec.ofChange editDoesWrong)

/- THE SECOND FORM. 'bulk': how many values and letters a reading holds, each counted each time it is reached (what is shared counts as often as it is met; a slice's spare places count too). A statement '..UptoSaid' is the law's where the arguments, and the package variables that the reading takes, are together of bulk at most 1048576: NARROWER than '..Said'. Prove '..Said' where nothing that the law and all that it calls make is longer than what came in: it says more and counts as full. Else prove '..UptoSaid'. A law counts once. -/
mutual
def uptoBulk {H : Type} : DataW H → Nat
  | .lit (.string bytes) => bytes.length + 1
  | .lit _ => 1
  | .nil => 1
  | .ptr d => uptoBulk d + 1
  | .slice elems spare => uptoBulkAll elems + uptoBulkAll spare + 1
  | .agg parts => uptoBulkAll parts + 1
  | .iface _ d => uptoBulk d + 1
  | .map entries => uptoBulkEntries entries + 1
  | .held _ => 1
def uptoBulkAll {H : Type} : List (DataW H) → Nat
  | [] => 0
  | d :: r => uptoBulk d + uptoBulkAll r
def uptoBulkEntries {H : Type} : List (Lit × DataW H) → Nat
  | [] => 0
  | x :: r => uptoBulkEntry x + uptoBulkEntries r
def uptoBulkEntry {H : Type} : Lit × DataW H → Nat
  | (.string bytes, d) => bytes.length + uptoBulk d + 1
  | (_, d) => uptoBulk d + 1
 end
def uptoSmall : (H : Type) → List (DataW H) → Bool := fun _ ds => decide (uptoBulkAll ds ≤ 1048576)
def OpenSpec.upto (s : _root_.Go.ChangeSpec) : _root_.Go.OpenSpec := { _root_.Go.OpenSpec.ofChange s with cond := some uptoSmall }

/-- 'emenderlaw07.SchemaChecks', WHERE WHAT IT READS IS OF BULK AT MOST 1048576: true; the input reads as it did. -/
def schemaChecksUptoRow : OpenClaim := { program := "ytofjodppljnlaaagreatdoor", sum := "0c1792d13e15c919aaebe971237fb5e867a708db85e8828c50927c8b64625e12", func := "emender/emenderlaw07.SchemaChecks", spec := "schemaChecks", inPlace := ["internal/reflectlite.ValueOf", "(internal/reflectlite.Value).Type", "(internal/reflectlite.Value).IsNil", "internal/reflectlite.TypeOf", "(internal/reflectlite.Value).Elem", "(internal/reflectlite.Value).Set"], unfollowed := true, recurses := true, named := ["errors.errorType"], apart := false, laid := [("errors.errorType", laid_errors_errorType)], narrowed := true }
def SchemaChecksUptoSaid : Prop := schemaChecksUptoRow.holds Tryz.pinned (OpenSpec.upto schemaChecksSpec)

/-- 'emenderlaw11.CaretAsks', WHERE WHAT IT READS IS OF BULK AT MOST 1048576: true; the input reads as it did. -/
def caretAsksUptoRow : OpenClaim := { program := "ytofjodppljnlaaagreatdoor", sum := "0c1792d13e15c919aaebe971237fb5e867a708db85e8828c50927c8b64625e12", func := "emender/emenderlaw11.CaretAsks", spec := "caretAsks", inPlace := ["internal/reflectlite.ValueOf", "(internal/reflectlite.Value).Type", "(internal/reflectlite.Value).IsNil", "internal/reflectlite.TypeOf", "(internal/reflectlite.Value).Elem", "(internal/reflectlite.Value).Set"], unfollowed := true, recurses := true, named := ["errors.errorType"], apart := false, laid := [("errors.errorType", laid_errors_errorType)], narrowed := true }
def CaretAsksUptoSaid : Prop := caretAsksUptoRow.holds Tryz.pinned (OpenSpec.upto caretAsksSpec)

/-- 'emenderlaw12.EditTexts', WHERE WHAT IT READS IS OF BULK AT MOST 1048576: true; the input reads as it did. -/
def editTextsUptoRow : OpenClaim := { program := "ytofjodppljnlaaagreatdoor", sum := "0c1792d13e15c919aaebe971237fb5e867a708db85e8828c50927c8b64625e12", func := "emender/emenderlaw12.EditTexts", spec := "editTexts", inPlace := ["internal/reflectlite.ValueOf", "(internal/reflectlite.Value).Type", "(internal/reflectlite.Value).IsNil", "internal/reflectlite.TypeOf", "(internal/reflectlite.Value).Elem", "(internal/reflectlite.Value).Set"], unfollowed := true, recurses := true, named := ["errors.errorType"], apart := false, laid := [("errors.errorType", laid_errors_errorType)], narrowed := true }
def EditTextsUptoSaid : Prop := editTextsUptoRow.holds Tryz.pinned (OpenSpec.upto editTextsSpec)

/-- 'emenderlaw12.EditRanges', WHERE WHAT IT READS IS OF BULK AT MOST 1048576: true; the input reads as it did. -/
def editRangesUptoRow : OpenClaim := { program := "ytofjodppljnlaaagreatdoor", sum := "0c1792d13e15c919aaebe971237fb5e867a708db85e8828c50927c8b64625e12", func := "emender/emenderlaw12.EditRanges", spec := "editRanges", inPlace := ["internal/reflectlite.ValueOf", "(internal/reflectlite.Value).Type", "(internal/reflectlite.Value).IsNil", "internal/reflectlite.TypeOf", "(internal/reflectlite.Value).Elem", "(internal/reflectlite.Value).Set"], unfollowed := true, recurses := true, named := ["errors.errorType"], apart := false, laid := [("errors.errorType", laid_errors_errorType)], narrowed := true }
def EditRangesUptoSaid : Prop := editRangesUptoRow.holds Tryz.pinned (OpenSpec.upto editRangesSpec)

/-- 'emenderlaw13.FitFits', WHERE WHAT IT READS IS OF BULK AT MOST 1048576: true; the input reads as it did. -/
def fitFitsUptoRow : OpenClaim := { program := "ytofjodppljnlaaagreatdoor", sum := "0c1792d13e15c919aaebe971237fb5e867a708db85e8828c50927c8b64625e12", func := "emender/emenderlaw13.FitFits", spec := "fitFits", inPlace := ["internal/reflectlite.ValueOf", "(internal/reflectlite.Value).Type", "(internal/reflectlite.Value).IsNil", "internal/reflectlite.TypeOf", "(internal/reflectlite.Value).Elem", "(internal/reflectlite.Value).Set"], unfollowed := true, recurses := true, named := ["errors.errorType"], apart := false, laid := [("errors.errorType", laid_errors_errorType)], narrowed := true }
def FitFitsUptoSaid : Prop := fitFitsUptoRow.holds Tryz.pinned (OpenSpec.upto fitFitsSpec)

/-- 'emenderlaw12.EditBlocks', WHERE WHAT IT READS IS OF BULK AT MOST 1048576: true; the input reads as it did. -/
def editBlocksUptoRow : OpenClaim := { program := "ytofjodppljnlaaagreatdoor", sum := "0c1792d13e15c919aaebe971237fb5e867a708db85e8828c50927c8b64625e12", func := "emender/emenderlaw12.EditBlocks", spec := "editBlocks", inPlace := ["internal/reflectlite.ValueOf", "(internal/reflectlite.Value).Type", "(internal/reflectlite.Value).IsNil", "internal/reflectlite.TypeOf", "(internal/reflectlite.Value).Elem", "(internal/reflectlite.Value).Set"], unfollowed := true, recurses := true, named := ["errors.errorType"], apart := false, laid := [("errors.errorType", laid_errors_errorType)], narrowed := true }
def EditBlocksUptoSaid : Prop := editBlocksUptoRow.holds Tryz.pinned (OpenSpec.upto editBlocksSpec)

/-- 'emenderlaw27.NestItems', WHERE WHAT IT READS IS OF BULK AT MOST 1048576: true; the input reads as it did. -/
def nestItemsUptoRow : OpenClaim := { program := "ytofjodppljnlaaagreatdoor", sum := "0c1792d13e15c919aaebe971237fb5e867a708db85e8828c50927c8b64625e12", func := "emender/emenderlaw27.NestItems", spec := "nestItems", inPlace := ["internal/reflectlite.ValueOf", "(internal/reflectlite.Value).Type", "(internal/reflectlite.Value).IsNil", "internal/reflectlite.TypeOf", "(internal/reflectlite.Value).Elem", "(internal/reflectlite.Value).Set"], unfollowed := true, recurses := true, named := ["errors.errorType"], apart := false, laid := [("errors.errorType", laid_errors_errorType)], narrowed := true }
def NestItemsUptoSaid : Prop := nestItemsUptoRow.holds Tryz.pinned (OpenSpec.upto nestItemsSpec)

/-- 'emenderlaw27.NestPuts', WHERE WHAT IT READS IS OF BULK AT MOST 1048576: true; the input reads as it did. -/
def nestPutsUptoRow : OpenClaim := { program := "ytofjodppljnlaaagreatdoor", sum := "0c1792d13e15c919aaebe971237fb5e867a708db85e8828c50927c8b64625e12", func := "emender/emenderlaw27.NestPuts", spec := "nestPuts", inPlace := ["internal/reflectlite.ValueOf", "(internal/reflectlite.Value).Type", "(internal/reflectlite.Value).IsNil", "internal/reflectlite.TypeOf", "(internal/reflectlite.Value).Elem", "(internal/reflectlite.Value).Set"], unfollowed := true, recurses := true, named := ["errors.errorType"], apart := false, laid := [("errors.errorType", laid_errors_errorType)], narrowed := true }
def NestPutsUptoSaid : Prop := nestPutsUptoRow.holds Tryz.pinned (OpenSpec.upto nestPutsSpec)

/-- 'emenderlaw12.EditDoes', WHERE WHAT IT READS IS OF BULK AT MOST 1048576: true; the input reads as it did. -/
def editDoesUptoRow : OpenClaim := { program := "ytofjodppljnlaaagreatdoor", sum := "0c1792d13e15c919aaebe971237fb5e867a708db85e8828c50927c8b64625e12", func := "emender/emenderlaw12.EditDoes", spec := "editDoes", inPlace := ["internal/reflectlite.ValueOf", "(internal/reflectlite.Value).Type", "(internal/reflectlite.Value).IsNil", "internal/reflectlite.TypeOf", "(internal/reflectlite.Value).Elem", "(internal/reflectlite.Value).Set"], unfollowed := true, recurses := true, named := ["errors.errorType"], apart := false, laid := [("errors.errorType", laid_errors_errorType)], narrowed := true }
def EditDoesUptoSaid : Prop := editDoesUptoRow.holds Tryz.pinned (OpenSpec.upto editDoesSpec)

end Rows
end Go.Proofs.YtofjodppljnlaaaGreatDoor
