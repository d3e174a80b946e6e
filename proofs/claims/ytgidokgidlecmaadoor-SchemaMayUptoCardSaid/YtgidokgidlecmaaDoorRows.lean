/-
  NARROWER THAN 'FOR EVERY INPUT', by the rows' own cells (each row's printed sentence says how): SchemaWhole: laid · SchemaJoins: laid · SchemaMay: laid.
  DERIVED. THE GIVEN ROWS OF THIS SEAT. 3 by the template 'for every input the law returns true; each argument reads behind the call as it read before'; 0 by the template 'total and deterministic' (their statements: YtgidokgidlecmaaDoorTotals.lean).
  GIVEN WITH THE SEED: the statements are not yours to turn. If you find one false, say at which input.
  Laid BY PROGRAM, IN A SANDBOX (cutbox-rows.mjs): the forced cells as the released guide's own fill.sh prints them over the translation 8fd09538df3220c5… (all of the seat's roots in one cut). By AI agents, Wed Nov 11 2026. No macro, syntax, notation, axiom, sorry.
-/
import Derived.Test.YtgidokgidlecmaaDoorChecked
import GoSem.Claim
import GoSem.ClaimJoined
import GoSem.ClaimMapViews
import Derived.JoinedTies
import Derived.KernelRfl
namespace Go.Proofs.YtgidokgidlecmaaDoor
/- THE CELL 'sum', in the pinned program and in every row, IS THE sha256 OF THE DUMP (.gsa) THAT YtgidokgidlecmaaDoorProg.lean LOADS. Nothing in Lean hashes anything: it is a label: what it is worth is what the hold of that sum in a sandbox is worth. -/
noncomputable def Tryd.pinned : Pinned := { name := "ytgidokgidlecmaadoor", sum := "8fd09538df3220c55d7710f8c4cf06ddb6dcc48337efe8a8839e40e1d2d625ba", checked := Tryd.checked }
namespace Rows
def none {H : Type} : Left H := { results := [], args := [] }

/- WHAT THE LISTED PACKAGE-LEVEL VARIABLES READ AS WHEN THE CALL BEGINS. Each datum BY PROGRAM (the guide's laid-datum.mjs) off the statement by which the dump's own 'gosem.cut.vars' lays the variable. In a bare row this is a premise. The card (YtgidokgidlecmaaDoorCards.lean) ties it to the program's text. -/
def laid_errors_errorType {H : Type} : DataW H := .iface "internal/reflectlite.rtype" (.agg [.ptr (.lit (.string [101, 114, 114, 111, 114]))])

/-- 'emenderlaw07.SchemaWhole': WHATEVER THE INPUT: true; the input reads as it did. -/
def schemaWholeSpec : ChangeSpec := { name := "schemaWhole", fn := fun _ => fun
  | [d] => { results := [.lit (.bool true)], args := [d] }
  | _ => none }
def schemaWholeRow : OpenClaim := { program := "ytgidokgidlecmaadoor", sum := "8fd09538df3220c55d7710f8c4cf06ddb6dcc48337efe8a8839e40e1d2d625ba", func := "emender/emenderlaw07.SchemaWhole", spec := "schemaWhole", inPlace := ["internal/reflectlite.ValueOf", "(internal/reflectlite.Value).Type", "(internal/reflectlite.Value).IsNil", "internal/reflectlite.TypeOf", "(internal/reflectlite.Value).Elem", "(internal/reflectlite.Value).Set"], unfollowed := true, recurses := true, named := ["errors.errorType"], apart := false, laid := [("errors.errorType", laid_errors_errorType)] }
def SchemaWholeSaid : Prop := schemaWholeRow.holds Tryd.pinned (OpenSpec.ofChange schemaWholeSpec)

/-- ITS FALSE NEIGHBOUR: 'it returns false'. Refute it at one input. -/
def schemaWholeWrong : ChangeSpec := { name := "schemaWhole", fn := fun _ => fun
  | [d] => { results := [.lit (.bool false)], args := [d] }
  | _ => none }
def SchemaWholeWrongFalsely : Prop := schemaWholeRow.holds Tryd.pinned (OpenSpec.ofChange schemaWholeWrong)

/-- 'emenderlaw07.SchemaJoins': WHATEVER THE INPUT: true; the input reads as it did. -/
def schemaJoinsSpec : ChangeSpec := { name := "schemaJoins", fn := fun _ => fun
  | [d1, d2] => { results := [.lit (.bool true)], args := [d1, d2] }
  | _ => none }
def schemaJoinsRow : OpenClaim := { program := "ytgidokgidlecmaadoor", sum := "8fd09538df3220c55d7710f8c4cf06ddb6dcc48337efe8a8839e40e1d2d625ba", func := "emender/emenderlaw07.SchemaJoins", spec := "schemaJoins", inPlace := ["internal/reflectlite.ValueOf", "(internal/reflectlite.Value).Type", "(internal/reflectlite.Value).IsNil", "internal/reflectlite.TypeOf", "(internal/reflectlite.Value).Elem", "(internal/reflectlite.Value).Set"], unfollowed := true, recurses := true, named := ["errors.errorType"], apart := false, laid := [("errors.errorType", laid_errors_errorType)] }
def SchemaJoinsSaid : Prop := schemaJoinsRow.holds Tryd.pinned (OpenSpec.ofChange schemaJoinsSpec)

/-- ITS FALSE NEIGHBOUR: 'it returns false'. Refute it at one input. -/
def schemaJoinsWrong : ChangeSpec := { name := "schemaJoins", fn := fun _ => fun
  | [d1, d2] => { results := [.lit (.bool false)], args := [d1, d2] }
  | _ => none }
def SchemaJoinsWrongFalsely : Prop := schemaJoinsRow.holds Tryd.pinned (OpenSpec.ofChange schemaJoinsWrong)

/-- 'emenderlaw07.SchemaMay': WHATEVER THE INPUT: true; the input reads as it did. -/
def schemaMaySpec : ChangeSpec := { name := "schemaMay", fn := fun _ => fun
  | [d1, d2] => { results := [.lit (.bool true)], args := [d1, d2] }
  | _ => none }
def schemaMayRow : OpenClaim := { program := "ytgidokgidlecmaadoor", sum := "8fd09538df3220c55d7710f8c4cf06ddb6dcc48337efe8a8839e40e1d2d625ba", func := "emender/emenderlaw07.SchemaMay", spec := "schemaMay", inPlace := ["internal/reflectlite.ValueOf", "(internal/reflectlite.Value).Type", "(internal/reflectlite.Value).IsNil", "internal/reflectlite.TypeOf", "(internal/reflectlite.Value).Elem", "(internal/reflectlite.Value).Set"], unfollowed := true, recurses := true, named := ["errors.errorType"], apart := false, laid := [("errors.errorType", laid_errors_errorType)] }
def SchemaMaySaid : Prop := schemaMayRow.holds Tryd.pinned (OpenSpec.ofChange schemaMaySpec)

/-- ITS FALSE NEIGHBOUR: 'it returns false'. Refute it at one input. -/
def schemaMayWrong : ChangeSpec := { name := "schemaMay", fn := fun _ => fun
  | [d1, d2] => { results := [.lit (.bool false)], args := [d1, d2] }
  | _ => none }
def SchemaMayWrongFalsely : Prop := schemaMayRow.holds Tryd.pinned (OpenSpec.ofChange schemaMayWrong)

/- THE SECOND FORM. 'bulk': how many values and letters a reading holds, each counted each time it is reached (what is shared counts as often as it is met; a slice's spare places count too). A statement '..UptoSaid' is the law's where the arguments, and the package variables that the reading takes, are together of bulk at most 1048576: NARROWER than '..Said'. Prove '..Said' where nothing that the law and all that it calls make is longer than what came in: it says more and counts as full. Else prove '..UptoSaid'. A law counts once. -/
mutual
def uptoBulk {H : Type} : DataW H → Nat
  | .lit (.string bytes) => bytes.length + 1
  | .lit _ => 1
  | .nil => 1
  | .ptr d => uptoBulk d + 1
  | .slice elems spare => uptoBulkAll elems + uptoBulkAll spare + 1
  | .agg parts => uptoBulkAll parts + 1
  | .iface _ d => uptoBulk d + 1
  | .map entries => uptoBulkEntries entries + 1
  | .held _ => 1
def uptoBulkAll {H : Type} : List (DataW H) → Nat
  | [] => 0
  | d :: r => uptoBulk d + uptoBulkAll r
def uptoBulkEntries {H : Type} : List (Lit × DataW H) → Nat
  | [] => 0
  | x :: r => uptoBulkEntry x + uptoBulkEntries r
def uptoBulkEntry {H : Type} : Lit × DataW H → Nat
  | (.string bytes, d) => bytes.length + uptoBulk d + 1
  | (_, d) => uptoBulk d + 1
 end
def uptoSmall : (H : Type) → List (DataW H) → Bool := fun _ ds => decide (uptoBulkAll ds ≤ 1048576)
def OpenSpec.upto (s : _root_.Go.ChangeSpec) : _root_.Go.OpenSpec := { _root_.Go.OpenSpec.ofChange s with cond := some uptoSmall }

/-- 'emenderlaw07.SchemaWhole', WHERE WHAT IT READS IS OF BULK AT MOST 1048576: true; the input reads as it did. -/
def schemaWholeUptoRow : OpenClaim := { program := "ytgidokgidlecmaadoor", sum := "8fd09538df3220c55d7710f8c4cf06ddb6dcc48337efe8a8839e40e1d2d625ba", func := "emender/emenderlaw07.SchemaWhole", spec := "schemaWhole", inPlace := ["internal/reflectlite.ValueOf", "(internal/reflectlite.Value).Type", "(internal/reflectlite.Value).IsNil", "internal/reflectlite.TypeOf", "(internal/reflectlite.Value).Elem", "(internal/reflectlite.Value).Set"], unfollowed := true, recurses := true, named := ["errors.errorType"], apart := false, laid := [("errors.errorType", laid_errors_errorType)], narrowed := true }
def SchemaWholeUptoSaid : Prop := schemaWholeUptoRow.holds Tryd.pinned (OpenSpec.upto schemaWholeSpec)

/-- 'emenderlaw07.SchemaJoins', WHERE WHAT IT READS IS OF BULK AT MOST 1048576: true; the input reads as it did. -/
def schemaJoinsUptoRow : OpenClaim := { program := "ytgidokgidlecmaadoor", sum := "8fd09538df3220c55d7710f8c4cf06ddb6dcc48337efe8a8839e40e1d2d625ba", func := "emender/emenderlaw07.SchemaJoins", spec := "schemaJoins", inPlace := ["internal/reflectlite.ValueOf", "(internal/reflectlite.Value).Type", "(internal/reflectlite.Value).IsNil", "internal/reflectlite.TypeOf", "(internal/reflectlite.Value).Elem", "(internal/reflectlite.Value).Set"], unfollowed := true, recurses := true, named := ["errors.errorType"], apart := false, laid := [("errors.errorType", laid_errors_errorType)], narrowed := true }
def SchemaJoinsUptoSaid : Prop := schemaJoinsUptoRow.holds Tryd.pinned (OpenSpec.upto schemaJoinsSpec)

/-- 'emenderlaw07.SchemaMay', WHERE WHAT IT READS IS OF BULK AT MOST 1048576: true; the input reads as it did. -/
def schemaMayUptoRow : OpenClaim := { program := "ytgidokgidlecmaadoor", sum := "8fd09538df3220c55d7710f8c4cf06ddb6dcc48337efe8a8839e40e1d2d625ba", func := "emender/emenderlaw07.SchemaMay", spec := "schemaMay", inPlace := ["internal/reflectlite.ValueOf", "(internal/reflectlite.Value).Type", "(internal/reflectlite.Value).IsNil", "internal/reflectlite.TypeOf", "(internal/reflectlite.Value).Elem", "(internal/reflectlite.Value).Set"], unfollowed := true, recurses := true, named := ["errors.errorType"], apart := false, laid := [("errors.errorType", laid_errors_errorType)], narrowed := true }
def SchemaMayUptoSaid : Prop := schemaMayUptoRow.holds Tryd.pinned (OpenSpec.upto schemaMaySpec)

end Rows
end Go.Proofs.YtgidokgidlecmaaDoor
