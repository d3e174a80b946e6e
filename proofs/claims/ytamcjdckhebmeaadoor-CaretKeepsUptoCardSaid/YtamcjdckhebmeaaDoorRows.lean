/-
  NARROWER THAN 'FOR EVERY INPUT', by the rows' own cells (each row's printed sentence says how): CaretNear: laid · CaretMoves: laid · CaretKeeps: laid.
  DERIVED. THE GIVEN ROWS OF THIS SEAT. 3 by the template 'for every input the law returns true; each argument reads behind the call as it read before'; 0 by the template 'total and deterministic' (their statements: YtamcjdckhebmeaaDoorTotals.lean).
  GIVEN WITH THE SEED: the statements are not yours to turn. If you find one false, say at which input.
  Laid BY PROGRAM, IN A SANDBOX (cutbox-rows.mjs): the forced cells as the released guide's own fill.sh prints them over the translation 03d353f0bb7fa7f8… (all of the seat's roots in one cut). By AI agents, Wed Nov 11 2026. No macro, syntax, notation, axiom, sorry.
-/
import Derived.Test.YtamcjdckhebmeaaDoorChecked
import GoSem.Claim
import GoSem.ClaimJoined
import GoSem.ClaimMapViews
import Derived.JoinedTies
import Derived.KernelRfl
namespace Go.Proofs.YtamcjdckhebmeaaDoor
/- THE CELL 'sum', in the pinned program and in every row, IS THE sha256 OF THE DUMP (.gsa) THAT YtamcjdckhebmeaaDoorProg.lean LOADS. Nothing in Lean hashes anything: it is a label: what it is worth is what the hold of that sum in a sandbox is worth. -/
noncomputable def Tryd.pinned : Pinned := { name := "ytamcjdckhebmeaadoor", sum := "03d353f0bb7fa7f843c423caea2f327c61e7eda1b8ee50a9da8a669a177d48f2", checked := Tryd.checked }
namespace Rows
def none {H : Type} : Left H := { results := [], args := [] }

/- WHAT THE LISTED PACKAGE-LEVEL VARIABLES READ AS WHEN THE CALL BEGINS. Each datum BY PROGRAM (the guide's laid-datum.mjs) off the statement by which the dump's own 'gosem.cut.vars' lays the variable. In a bare row this is a premise. The card (YtamcjdckhebmeaaDoorCards.lean) ties it to the program's text. -/
def laid_errors_errorType {H : Type} : DataW H := .iface "internal/reflectlite.rtype" (.agg [.ptr (.lit (.string [101, 114, 114, 111, 114]))])

/-- 'emenderlaw11.CaretNear': WHATEVER THE INPUT: true; the input reads as it did. -/
def caretNearSpec : ChangeSpec := { name := "caretNear", fn := fun _ => fun
  | [d1, d2, d3] => { results := [.lit (.bool true)], args := [d1, d2, d3] }
  | _ => none }
def caretNearRow : OpenClaim := { program := "ytamcjdckhebmeaadoor", sum := "03d353f0bb7fa7f843c423caea2f327c61e7eda1b8ee50a9da8a669a177d48f2", func := "emender/emenderlaw11.CaretNear", spec := "caretNear", inPlace := ["internal/reflectlite.ValueOf", "(internal/reflectlite.Value).Type", "(internal/reflectlite.Value).IsNil", "internal/reflectlite.TypeOf", "(internal/reflectlite.Value).Elem", "(internal/reflectlite.Value).Set"], unfollowed := true, recurses := true, named := ["errors.errorType"], apart := false, laid := [("errors.errorType", laid_errors_errorType)] }
def CaretNearSaid : Prop := caretNearRow.holds Tryd.pinned (OpenSpec.ofChange caretNearSpec)

/-- ITS FALSE NEIGHBOUR: 'it returns false'. Refute it at one input. -/
def caretNearWrong : ChangeSpec := { name := "caretNear", fn := fun _ => fun
  | [d1, d2, d3] => { results := [.lit (.bool false)], args := [d1, d2, d3] }
  | _ => none }
def CaretNearWrongFalsely : Prop := caretNearRow.holds Tryd.pinned (OpenSpec.ofChange caretNearWrong)

/-- 'emenderlaw11.CaretMoves': WHATEVER THE INPUT: true; the input reads as it did. -/
def caretMovesSpec : ChangeSpec := { name := "caretMoves", fn := fun _ => fun
  | [d1, d2, d3] => { results := [.lit (.bool true)], args := [d1, d2, d3] }
  | _ => none }
def caretMovesRow : OpenClaim := { program := "ytamcjdckhebmeaadoor", sum := "03d353f0bb7fa7f843c423caea2f327c61e7eda1b8ee50a9da8a669a177d48f2", func := "emender/emenderlaw11.CaretMoves", spec := "caretMoves", inPlace := ["internal/reflectlite.ValueOf", "(internal/reflectlite.Value).Type", "(internal/reflectlite.Value).IsNil", "internal/reflectlite.TypeOf", "(internal/reflectlite.Value).Elem", "(internal/reflectlite.Value).Set"], unfollowed := true, recurses := true, named := ["errors.errorType"], apart := false, laid := [("errors.errorType", laid_errors_errorType)] }
def CaretMovesSaid : Prop := caretMovesRow.holds Tryd.pinned (OpenSpec.ofChange caretMovesSpec)

/-- ITS FALSE NEIGHBOUR: 'it returns false'. Refute it at one input. -/
def caretMovesWrong : ChangeSpec := { name := "caretMoves", fn := fun _ => fun
  | [d1, d2, d3] => { results := [.lit (.bool false)], args := [d1, d2, d3] }
  | _ => none }
def CaretMovesWrongFalsely : Prop := caretMovesRow.holds Tryd.pinned (OpenSpec.ofChange caretMovesWrong)

/-- 'emenderlaw11.CaretKeeps': WHATEVER THE INPUT: true; the input reads as it did. -/
def caretKeepsSpec : ChangeSpec := { name := "caretKeeps", fn := fun _ => fun
  | [d1, d2, d3] => { results := [.lit (.bool true)], args := [d1, d2, d3] }
  | _ => none }
def caretKeepsRow : OpenClaim := { program := "ytamcjdckhebmeaadoor", sum := "03d353f0bb7fa7f843c423caea2f327c61e7eda1b8ee50a9da8a669a177d48f2", func := "emender/emenderlaw11.CaretKeeps", spec := "caretKeeps", inPlace := ["internal/reflectlite.ValueOf", "(internal/reflectlite.Value).Type", "(internal/reflectlite.Value).IsNil", "internal/reflectlite.TypeOf", "(internal/reflectlite.Value).Elem", "(internal/reflectlite.Value).Set"], unfollowed := true, recurses := true, named := ["errors.errorType"], apart := false, laid := [("errors.errorType", laid_errors_errorType)] }
def CaretKeepsSaid : Prop := caretKeepsRow.holds Tryd.pinned (OpenSpec.ofChange caretKeepsSpec)

/-- ITS FALSE NEIGHBOUR: 'it returns false'. Refute it at one input. -/
def caretKeepsWrong : ChangeSpec := { name := "caretKeeps", fn := fun _ => fun
  | [d1, d2, d3] => { results := [.lit (.bool false)], args := [d1, d2, d3] }
  | _ => none }
def CaretKeepsWrongFalsely : Prop := caretKeepsRow.holds Tryd.pinned (OpenSpec.ofChange caretKeepsWrong)

/- THE SECOND FORM. 'bulk': how many values and letters a reading holds, each counted each time it is reached (what is shared counts as often as it is met; a slice's spare places count too). A statement '..UptoSaid' is the law's where the arguments, and the package variables that the reading takes, are together of bulk at most 1048576: NARROWER than '..Said'. Prove '..Said' where nothing that the law and all that it calls make is longer than what came in: it says more and counts as full. Else prove '..UptoSaid'. A law counts once. -/
mutual
def uptoBulk {H : Type} : DataW H → Nat
  | .lit (.string bytes) => bytes.length + 1
  | .lit _ => 1
  | .nil => 1
  | .ptr d => uptoBulk d + 1
  | .slice elems spare => uptoBulkAll elems + uptoBulkAll spare + 1
  | .agg parts => uptoBulkAll parts + 1
  | .iface _ d => uptoBulk d + 1
  | .map entries => uptoBulkEntries entries + 1
  | .held _ => 1
def uptoBulkAll {H : Type} : List (DataW H) → Nat
  | [] => 0
  | d :: r => uptoBulk d + uptoBulkAll r
def uptoBulkEntries {H : Type} : List (Lit × DataW H) → Nat
  | [] => 0
  | x :: r => uptoBulkEntry x + uptoBulkEntries r
def uptoBulkEntry {H : Type} : Lit × DataW H → Nat
  | (.string bytes, d) => bytes.length + uptoBulk d + 1
  | (_, d) => uptoBulk d + 1
 end
def uptoSmall : (H : Type) → List (DataW H) → Bool := fun _ ds => decide (uptoBulkAll ds ≤ 1048576)
def OpenSpec.upto (s : _root_.Go.ChangeSpec) : _root_.Go.OpenSpec := { _root_.Go.OpenSpec.ofChange s with cond := some uptoSmall }

/-- 'emenderlaw11.CaretNear', WHERE WHAT IT READS IS OF BULK AT MOST 1048576: true; the input reads as it did. -/
def caretNearUptoRow : OpenClaim := { program := "ytamcjdckhebmeaadoor", sum := "03d353f0bb7fa7f843c423caea2f327c61e7eda1b8ee50a9da8a669a177d48f2", func := "emender/emenderlaw11.CaretNear", spec := "caretNear", inPlace := ["internal/reflectlite.ValueOf", "(internal/reflectlite.Value).Type", "(internal/reflectlite.Value).IsNil", "internal/reflectlite.TypeOf", "(internal/reflectlite.Value).Elem", "(internal/reflectlite.Value).Set"], unfollowed := true, recurses := true, named := ["errors.errorType"], apart := false, laid := [("errors.errorType", laid_errors_errorType)], narrowed := true }
def CaretNearUptoSaid : Prop := caretNearUptoRow.holds Tryd.pinned (OpenSpec.upto caretNearSpec)

/-- 'emenderlaw11.CaretMoves', WHERE WHAT IT READS IS OF BULK AT MOST 1048576: true; the input reads as it did. -/
def caretMovesUptoRow : OpenClaim := { program := "ytamcjdckhebmeaadoor", sum := "03d353f0bb7fa7f843c423caea2f327c61e7eda1b8ee50a9da8a669a177d48f2", func := "emender/emenderlaw11.CaretMoves", spec := "caretMoves", inPlace := ["internal/reflectlite.ValueOf", "(internal/reflectlite.Value).Type", "(internal/reflectlite.Value).IsNil", "internal/reflectlite.TypeOf", "(internal/reflectlite.Value).Elem", "(internal/reflectlite.Value).Set"], unfollowed := true, recurses := true, named := ["errors.errorType"], apart := false, laid := [("errors.errorType", laid_errors_errorType)], narrowed := true }
def CaretMovesUptoSaid : Prop := caretMovesUptoRow.holds Tryd.pinned (OpenSpec.upto caretMovesSpec)

/-- 'emenderlaw11.CaretKeeps', WHERE WHAT IT READS IS OF BULK AT MOST 1048576: true; the input reads as it did. -/
def caretKeepsUptoRow : OpenClaim := { program := "ytamcjdckhebmeaadoor", sum := "03d353f0bb7fa7f843c423caea2f327c61e7eda1b8ee50a9da8a669a177d48f2", func := "emender/emenderlaw11.CaretKeeps", spec := "caretKeeps", inPlace := ["internal/reflectlite.ValueOf", "(internal/reflectlite.Value).Type", "(internal/reflectlite.Value).IsNil", "internal/reflectlite.TypeOf", "(internal/reflectlite.Value).Elem", "(internal/reflectlite.Value).Set"], unfollowed := true, recurses := true, named := ["errors.errorType"], apart := false, laid := [("errors.errorType", laid_errors_errorType)], narrowed := true }
def CaretKeepsUptoSaid : Prop := caretKeepsUptoRow.holds Tryd.pinned (OpenSpec.upto caretKeepsSpec)

end Rows
end Go.Proofs.YtamcjdckhebmeaaDoor
