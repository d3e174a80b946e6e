/- Partners (plain). -/
import Derived.Test.YtfapglhdakhbeaaDoorFlatC
namespace Go.Proofs.YtfapglhdakhbeaaDoor
open Go.RowKit
set_option linter.unusedVariables false
set_option linter.unusedSimpArgs false

def ptGo : Nat → Int → List Tok → Option Nat
  | _, _, [] => none
  | k, d, x :: r => if x.k = 1 then ptGo (k + 1) (d + 1) r else if x.k = 2 then (if d - 1 = 0 then some k else ptGo (k + 1) (d - 1) r) else ptGo (k + 1) d r
/-- The partner of what opens at i. -/
def partL (l : List Tok) (i : Nat) : Int := match ptGo 0 0 (l.drop i) with
  | some k => (i : Int) + k
  | none => -1
end Go.Proofs.YtfapglhdakhbeaaDoor
