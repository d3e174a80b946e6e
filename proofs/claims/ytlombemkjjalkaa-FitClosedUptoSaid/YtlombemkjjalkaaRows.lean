/-
  No cell of these rows narrows 'for every input' (looked for: loops, veiled, ifaces, maps, wideKeys, modest, calm, conditions, laid).
  DERIVED. THE GIVEN ROWS OF THIS SEAT. 4 by the template 'for every input the law returns true; each argument reads behind the call as it read before'; 0 by the template 'total and deterministic' (their statements: YtlombemkjjalkaaTotals.lean).
  GIVEN WITH THE SEED: the statements are not yours to turn. If you find one false, say at which input.
  Laid BY PROGRAM, IN A SANDBOX (cutbox-rows.mjs): the forced cells as the released guide's own fill.sh prints them over the translation 7b054a0767e928fc… (all of the seat's roots in one cut). By AI agents, Wed Nov 11 2026. No macro, syntax, notation, axiom, sorry.
-/
import Derived.Test.YtlombemkjjalkaaChecked
import GoSem.Claim
import GoSem.ClaimJoined
import GoSem.ClaimMapViews
import Derived.JoinedTies
import Derived.KernelRfl
namespace Go.Proofs.Ytlombemkjjalkaa
/- THE CELL 'sum', in the pinned program and in every row, IS THE sha256 OF THE DUMP (.gsa) THAT YtlombemkjjalkaaProg.lean LOADS. Nothing in Lean hashes anything: it is a label: what it is worth is what the hold of that sum in a sandbox is worth. -/
noncomputable def Try.pinned : Pinned := { name := "ytlombemkjjalkaa", sum := "7b054a0767e928fcbcf0906cf7ba589a87c08035189415c413f4ce0f598156e8", checked := Try.checked }
namespace Rows
def none {H : Type} : Left H := { results := [], args := [] }

/-- 'emenderlaw29.HtmlClean': WHATEVER THE INPUT: true; the input reads as it did. -/
def htmlCleanSpec : ChangeSpec := { name := "htmlClean", fn := fun _ => fun
  | [d] => { results := [.lit (.bool true)], args := [d] }
  | _ => none }
def htmlCleanRow : OpenClaim := { program := "ytlombemkjjalkaa", sum := "7b054a0767e928fcbcf0906cf7ba589a87c08035189415c413f4ce0f598156e8", func := "emender/emenderlaw29.HtmlClean", spec := "htmlClean", inPlace := ["internal/abi.NoEscape"], apart := false }
def HtmlCleanSaid : Prop := htmlCleanRow.holds Try.pinned (OpenSpec.ofChange htmlCleanSpec)

/-- ITS FALSE NEIGHBOUR: 'it returns false'. Refute it at one input. -/
def htmlCleanWrong : ChangeSpec := { name := "htmlClean", fn := fun _ => fun
  | [d] => { results := [.lit (.bool false)], args := [d] }
  | _ => none }
def HtmlCleanWrongFalsely : Prop := htmlCleanRow.holds Try.pinned (OpenSpec.ofChange htmlCleanWrong)

/-- 'emenderlaw13.FitSlices': WHATEVER THE INPUT: true; the input reads as it did. -/
def fitSlicesSpec : ChangeSpec := { name := "fitSlices", fn := fun _ => fun
  | [d1, d2] => { results := [.lit (.bool true)], args := [d1, d2] }
  | _ => none }
def fitSlicesRow : OpenClaim := { program := "ytlombemkjjalkaa", sum := "7b054a0767e928fcbcf0906cf7ba589a87c08035189415c413f4ce0f598156e8", func := "emender/emenderlaw13.FitSlices", spec := "fitSlices", apart := false }
def FitSlicesSaid : Prop := fitSlicesRow.holds Try.pinned (OpenSpec.ofChange fitSlicesSpec)

/-- ITS FALSE NEIGHBOUR: 'it returns false'. Refute it at one input. -/
def fitSlicesWrong : ChangeSpec := { name := "fitSlices", fn := fun _ => fun
  | [d1, d2] => { results := [.lit (.bool false)], args := [d1, d2] }
  | _ => none }
def FitSlicesWrongFalsely : Prop := fitSlicesRow.holds Try.pinned (OpenSpec.ofChange fitSlicesWrong)

/-- 'emenderlaw13.FitText': WHATEVER THE INPUT: true; the input reads as it did. -/
def fitTextSpec : ChangeSpec := { name := "fitText", fn := fun _ => fun
  | [d1, d2] => { results := [.lit (.bool true)], args := [d1, d2] }
  | _ => none }
def fitTextRow : OpenClaim := { program := "ytlombemkjjalkaa", sum := "7b054a0767e928fcbcf0906cf7ba589a87c08035189415c413f4ce0f598156e8", func := "emender/emenderlaw13.FitText", spec := "fitText", apart := false }
def FitTextSaid : Prop := fitTextRow.holds Try.pinned (OpenSpec.ofChange fitTextSpec)

/-- ITS FALSE NEIGHBOUR: 'it returns false'. Refute it at one input. -/
def fitTextWrong : ChangeSpec := { name := "fitText", fn := fun _ => fun
  | [d1, d2] => { results := [.lit (.bool false)], args := [d1, d2] }
  | _ => none }
def FitTextWrongFalsely : Prop := fitTextRow.holds Try.pinned (OpenSpec.ofChange fitTextWrong)

/-- 'emenderlaw13.FitClosed': WHATEVER THE INPUT: true; the input reads as it did. -/
def fitClosedSpec : ChangeSpec := { name := "fitClosed", fn := fun _ => fun
  | [d] => { results := [.lit (.bool true)], args := [d] }
  | _ => none }
def fitClosedRow : OpenClaim := { program := "ytlombemkjjalkaa", sum := "7b054a0767e928fcbcf0906cf7ba589a87c08035189415c413f4ce0f598156e8", func := "emender/emenderlaw13.FitClosed", spec := "fitClosed", inPlace := ["internal/abi.NoEscape"], apart := false }
def FitClosedSaid : Prop := fitClosedRow.holds Try.pinned (OpenSpec.ofChange fitClosedSpec)

/-- ITS FALSE NEIGHBOUR: 'it returns false'. Refute it at one input. -/
def fitClosedWrong : ChangeSpec := { name := "fitClosed", fn := fun _ => fun
  | [d] => { results := [.lit (.bool false)], args := [d] }
  | _ => none }
def FitClosedWrongFalsely : Prop := fitClosedRow.holds Try.pinned (OpenSpec.ofChange fitClosedWrong)

/- THE SECOND FORM. 'bulk': how many values and letters a reading holds, each counted each time it is reached (what is shared counts as often as it is met; a slice's spare places count too). A statement '..UptoSaid' is the law's where the arguments, and the package variables that the reading takes, are together of bulk at most 1048576: NARROWER than '..Said'. Prove '..Said' where nothing that the law and all that it calls make is longer than what came in: it says more and counts as full. Else prove '..UptoSaid'. A law counts once. -/
mutual
def uptoBulk {H : Type} : DataW H → Nat
  | .lit (.string bytes) => bytes.length + 1
  | .lit _ => 1
  | .nil => 1
  | .ptr d => uptoBulk d + 1
  | .slice elems spare => uptoBulkAll elems + uptoBulkAll spare + 1
  | .agg parts => uptoBulkAll parts + 1
  | .iface _ d => uptoBulk d + 1
  | .map entries => uptoBulkEntries entries + 1
  | .held _ => 1
def uptoBulkAll {H : Type} : List (DataW H) → Nat
  | [] => 0
  | d :: r => uptoBulk d + uptoBulkAll r
def uptoBulkEntries {H : Type} : List (Lit × DataW H) → Nat
  | [] => 0
  | x :: r => uptoBulkEntry x + uptoBulkEntries r
def uptoBulkEntry {H : Type} : Lit × DataW H → Nat
  | (.string bytes, d) => bytes.length + uptoBulk d + 1
  | (_, d) => uptoBulk d + 1
 end
def uptoSmall : (H : Type) → List (DataW H) → Bool := fun _ ds => decide (uptoBulkAll ds ≤ 1048576)
def OpenSpec.upto (s : _root_.Go.ChangeSpec) : _root_.Go.OpenSpec := { _root_.Go.OpenSpec.ofChange s with cond := some uptoSmall }

/-- 'emenderlaw29.HtmlClean', WHERE WHAT IT READS IS OF BULK AT MOST 1048576: true; the input reads as it did. -/
def htmlCleanUptoRow : OpenClaim := { program := "ytlombemkjjalkaa", sum := "7b054a0767e928fcbcf0906cf7ba589a87c08035189415c413f4ce0f598156e8", func := "emender/emenderlaw29.HtmlClean", spec := "htmlClean", inPlace := ["internal/abi.NoEscape"], apart := false, narrowed := true }
def HtmlCleanUptoSaid : Prop := htmlCleanUptoRow.holds Try.pinned (OpenSpec.upto htmlCleanSpec)

/-- 'emenderlaw13.FitSlices', WHERE WHAT IT READS IS OF BULK AT MOST 1048576: true; the input reads as it did. -/
def fitSlicesUptoRow : OpenClaim := { program := "ytlombemkjjalkaa", sum := "7b054a0767e928fcbcf0906cf7ba589a87c08035189415c413f4ce0f598156e8", func := "emender/emenderlaw13.FitSlices", spec := "fitSlices", apart := false, narrowed := true }
def FitSlicesUptoSaid : Prop := fitSlicesUptoRow.holds Try.pinned (OpenSpec.upto fitSlicesSpec)

/-- 'emenderlaw13.FitText', WHERE WHAT IT READS IS OF BULK AT MOST 1048576: true; the input reads as it did. -/
def fitTextUptoRow : OpenClaim := { program := "ytlombemkjjalkaa", sum := "7b054a0767e928fcbcf0906cf7ba589a87c08035189415c413f4ce0f598156e8", func := "emender/emenderlaw13.FitText", spec := "fitText", apart := false, narrowed := true }
def FitTextUptoSaid : Prop := fitTextUptoRow.holds Try.pinned (OpenSpec.upto fitTextSpec)

/-- 'emenderlaw13.FitClosed', WHERE WHAT IT READS IS OF BULK AT MOST 1048576: true; the input reads as it did. -/
def fitClosedUptoRow : OpenClaim := { program := "ytlombemkjjalkaa", sum := "7b054a0767e928fcbcf0906cf7ba589a87c08035189415c413f4ce0f598156e8", func := "emender/emenderlaw13.FitClosed", spec := "fitClosed", inPlace := ["internal/abi.NoEscape"], apart := false, narrowed := true }
def FitClosedUptoSaid : Prop := fitClosedUptoRow.holds Try.pinned (OpenSpec.upto fitClosedSpec)

end Rows
end Go.Proofs.Ytlombemkjjalkaa
