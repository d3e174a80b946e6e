/-
  NARROWER THAN 'FOR EVERY INPUT', by the rows' own cells (each row's printed sentence says how): RegOpt: loops · RegSeqs: loops · RegAsks: loops · RegNexts: loops.
  DERIVED. THE GIVEN ROWS OF THIS SEAT. 5 by the template 'for every input the law returns true; each argument reads behind the call as it read before'; 0 by the template 'total and deterministic' (their statements: YtchgeaklaeoplaaTotals.lean).
  GIVEN WITH THE SEED: the statements are not yours to turn. If you find one false, say at which input.
  Laid BY PROGRAM, IN A SANDBOX (cutbox-rows.mjs): the forced cells as the released guide's own fill.sh prints them over the translation 3d90295fe82a8497… (all of the seat's roots in one cut). By AI agents, Wed Nov 11 2026. No macro, syntax, notation, axiom, sorry.
-/
import Derived.Test.YtchgeaklaeoplaaChecked
import GoSem.Claim
import GoSem.ClaimJoined
import GoSem.ClaimMapViews
import Derived.JoinedTies
import Derived.KernelRfl
namespace Go.Proofs.Ytchgeaklaeoplaa
/- THE CELL 'sum', in the pinned program and in every row, IS THE sha256 OF THE DUMP (.gsa) THAT YtchgeaklaeoplaaProg.lean LOADS. Nothing in Lean hashes anything: it is a label: what it is worth is what the hold of that sum in a sandbox is worth. -/
noncomputable def Try.pinned : Pinned := { name := "ytchgeaklaeoplaa", sum := "3d90295fe82a849762da0dcaf0064943982dfecb408f892aeceb6d49453d0b20", checked := Try.checked }
namespace Rows
def none {H : Type} : Left H := { results := [], args := [] }

/-- 'emenderlaw06.RegOpt': WHATEVER THE INPUT: true; the input reads as it did. -/
def regOptSpec : ChangeSpec := { name := "regOpt", fn := fun _ => fun
  | [d1, d2, d3, d4] => { results := [.lit (.bool true)], args := [d1, d2, d3, d4] }
  | _ => none }
def regOptRow : OpenClaim := { program := "ytchgeaklaeoplaa", sum := "3d90295fe82a849762da0dcaf0064943982dfecb408f892aeceb6d49453d0b20", func := "emender/emenderlaw06.RegOpt", spec := "regOpt", unfollowed := true, recurses := true, loops := true, apart := false }
def RegOptSaid : Prop := regOptRow.holds Try.pinned (OpenSpec.ofChange regOptSpec)

/-- ITS FALSE NEIGHBOUR: 'it returns false'. Refute it at one input. -/
def regOptWrong : ChangeSpec := { name := "regOpt", fn := fun _ => fun
  | [d1, d2, d3, d4] => { results := [.lit (.bool false)], args := [d1, d2, d3, d4] }
  | _ => none }
def RegOptWrongFalsely : Prop := regOptRow.holds Try.pinned (OpenSpec.ofChange regOptWrong)

/-- 'emenderlaw06.RegSeqs': WHATEVER THE INPUT: true; the input reads as it did. -/
def regSeqsSpec : ChangeSpec := { name := "regSeqs", fn := fun _ => fun
  | [d1, d2, d3, d4, d5] => { results := [.lit (.bool true)], args := [d1, d2, d3, d4, d5] }
  | _ => none }
def regSeqsRow : OpenClaim := { program := "ytchgeaklaeoplaa", sum := "3d90295fe82a849762da0dcaf0064943982dfecb408f892aeceb6d49453d0b20", func := "emender/emenderlaw06.RegSeqs", spec := "regSeqs", unfollowed := true, recurses := true, loops := true, apart := false }
def RegSeqsSaid : Prop := regSeqsRow.holds Try.pinned (OpenSpec.ofChange regSeqsSpec)

/-- ITS FALSE NEIGHBOUR: 'it returns false'. Refute it at one input. -/
def regSeqsWrong : ChangeSpec := { name := "regSeqs", fn := fun _ => fun
  | [d1, d2, d3, d4, d5] => { results := [.lit (.bool false)], args := [d1, d2, d3, d4, d5] }
  | _ => none }
def RegSeqsWrongFalsely : Prop := regSeqsRow.holds Try.pinned (OpenSpec.ofChange regSeqsWrong)

/-- 'emenderlaw06.RegNames': WHATEVER THE INPUT: true; the input reads as it did. -/
def regNamesSpec : ChangeSpec := { name := "regNames", fn := fun _ => fun
  | [d1, d2] => { results := [.lit (.bool true)], args := [d1, d2] }
  | _ => none }
def regNamesRow : OpenClaim := { program := "ytchgeaklaeoplaa", sum := "3d90295fe82a849762da0dcaf0064943982dfecb408f892aeceb6d49453d0b20", func := "emender/emenderlaw06.RegNames", spec := "regNames", unfollowed := true, recurses := true, apart := false }
def RegNamesSaid : Prop := regNamesRow.holds Try.pinned (OpenSpec.ofChange regNamesSpec)

/-- ITS FALSE NEIGHBOUR: 'it returns false'. Refute it at one input. -/
def regNamesWrong : ChangeSpec := { name := "regNames", fn := fun _ => fun
  | [d1, d2] => { results := [.lit (.bool false)], args := [d1, d2] }
  | _ => none }
def RegNamesWrongFalsely : Prop := regNamesRow.holds Try.pinned (OpenSpec.ofChange regNamesWrong)

/-- 'emenderlaw06.RegAsks': WHATEVER THE INPUT: true; the input reads as it did. -/
def regAsksSpec : ChangeSpec := { name := "regAsks", fn := fun _ => fun
  | [d1, d2, d3] => { results := [.lit (.bool true)], args := [d1, d2, d3] }
  | _ => none }
def regAsksRow : OpenClaim := { program := "ytchgeaklaeoplaa", sum := "3d90295fe82a849762da0dcaf0064943982dfecb408f892aeceb6d49453d0b20", func := "emender/emenderlaw06.RegAsks", spec := "regAsks", unfollowed := true, recurses := true, loops := true, apart := false }
def RegAsksSaid : Prop := regAsksRow.holds Try.pinned (OpenSpec.ofChange regAsksSpec)

/-- ITS FALSE NEIGHBOUR: 'it returns false'. Refute it at one input. -/
def regAsksWrong : ChangeSpec := { name := "regAsks", fn := fun _ => fun
  | [d1, d2, d3] => { results := [.lit (.bool false)], args := [d1, d2, d3] }
  | _ => none }
def RegAsksWrongFalsely : Prop := regAsksRow.holds Try.pinned (OpenSpec.ofChange regAsksWrong)

/-- 'emenderlaw06.RegNexts': WHATEVER THE INPUT: true; the input reads as it did. -/
def regNextsSpec : ChangeSpec := { name := "regNexts", fn := fun _ => fun
  | [d1, d2, d3] => { results := [.lit (.bool true)], args := [d1, d2, d3] }
  | _ => none }
def regNextsRow : OpenClaim := { program := "ytchgeaklaeoplaa", sum := "3d90295fe82a849762da0dcaf0064943982dfecb408f892aeceb6d49453d0b20", func := "emender/emenderlaw06.RegNexts", spec := "regNexts", unfollowed := true, recurses := true, loops := true, apart := false }
def RegNextsSaid : Prop := regNextsRow.holds Try.pinned (OpenSpec.ofChange regNextsSpec)

/-- ITS FALSE NEIGHBOUR: 'it returns false'. Refute it at one input. -/
def regNextsWrong : ChangeSpec := { name := "regNexts", fn := fun _ => fun
  | [d1, d2, d3] => { results := [.lit (.bool false)], args := [d1, d2, d3] }
  | _ => none }
def RegNextsWrongFalsely : Prop := regNextsRow.holds Try.pinned (OpenSpec.ofChange regNextsWrong)

/- THE SECOND FORM. 'bulk': how many values and letters a reading holds, each counted each time it is reached (what is shared counts as often as it is met; a slice's spare places count too). A statement '..UptoSaid' is the law's where the arguments, and the package variables that the reading takes, are together of bulk at most 1048576: NARROWER than '..Said'. Prove '..Said' where nothing that the law and all that it calls make is longer than what came in: it says more and counts as full. Else prove '..UptoSaid'. A law counts once. -/
mutual
def uptoBulk {H : Type} : DataW H → Nat
  | .lit (.string bytes) => bytes.length + 1
  | .lit _ => 1
  | .nil => 1
  | .ptr d => uptoBulk d + 1
  | .slice elems spare => uptoBulkAll elems + uptoBulkAll spare + 1
  | .agg parts => uptoBulkAll parts + 1
  | .iface _ d => uptoBulk d + 1
  | .map entries => uptoBulkEntries entries + 1
  | .held _ => 1
def uptoBulkAll {H : Type} : List (DataW H) → Nat
  | [] => 0
  | d :: r => uptoBulk d + uptoBulkAll r
def uptoBulkEntries {H : Type} : List (Lit × DataW H) → Nat
  | [] => 0
  | x :: r => uptoBulkEntry x + uptoBulkEntries r
def uptoBulkEntry {H : Type} : Lit × DataW H → Nat
  | (.string bytes, d) => bytes.length + uptoBulk d + 1
  | (_, d) => uptoBulk d + 1
 end
def uptoSmall : (H : Type) → List (DataW H) → Bool := fun _ ds => decide (uptoBulkAll ds ≤ 1048576)
def OpenSpec.upto (s : _root_.Go.ChangeSpec) : _root_.Go.OpenSpec := { _root_.Go.OpenSpec.ofChange s with cond := some uptoSmall }

/-- 'emenderlaw06.RegOpt', WHERE WHAT IT READS IS OF BULK AT MOST 1048576: true; the input reads as it did. -/
def regOptUptoRow : OpenClaim := { program := "ytchgeaklaeoplaa", sum := "3d90295fe82a849762da0dcaf0064943982dfecb408f892aeceb6d49453d0b20", func := "emender/emenderlaw06.RegOpt", spec := "regOpt", unfollowed := true, recurses := true, loops := true, apart := false, narrowed := true }
def RegOptUptoSaid : Prop := regOptUptoRow.holds Try.pinned (OpenSpec.upto regOptSpec)

/-- 'emenderlaw06.RegSeqs', WHERE WHAT IT READS IS OF BULK AT MOST 1048576: true; the input reads as it did. -/
def regSeqsUptoRow : OpenClaim := { program := "ytchgeaklaeoplaa", sum := "3d90295fe82a849762da0dcaf0064943982dfecb408f892aeceb6d49453d0b20", func := "emender/emenderlaw06.RegSeqs", spec := "regSeqs", unfollowed := true, recurses := true, loops := true, apart := false, narrowed := true }
def RegSeqsUptoSaid : Prop := regSeqsUptoRow.holds Try.pinned (OpenSpec.upto regSeqsSpec)

/-- 'emenderlaw06.RegNames', WHERE WHAT IT READS IS OF BULK AT MOST 1048576: true; the input reads as it did. -/
def regNamesUptoRow : OpenClaim := { program := "ytchgeaklaeoplaa", sum := "3d90295fe82a849762da0dcaf0064943982dfecb408f892aeceb6d49453d0b20", func := "emender/emenderlaw06.RegNames", spec := "regNames", unfollowed := true, recurses := true, apart := false, narrowed := true }
def RegNamesUptoSaid : Prop := regNamesUptoRow.holds Try.pinned (OpenSpec.upto regNamesSpec)

/-- 'emenderlaw06.RegAsks', WHERE WHAT IT READS IS OF BULK AT MOST 1048576: true; the input reads as it did. -/
def regAsksUptoRow : OpenClaim := { program := "ytchgeaklaeoplaa", sum := "3d90295fe82a849762da0dcaf0064943982dfecb408f892aeceb6d49453d0b20", func := "emender/emenderlaw06.RegAsks", spec := "regAsks", unfollowed := true, recurses := true, loops := true, apart := false, narrowed := true }
def RegAsksUptoSaid : Prop := regAsksUptoRow.holds Try.pinned (OpenSpec.upto regAsksSpec)

/-- 'emenderlaw06.RegNexts', WHERE WHAT IT READS IS OF BULK AT MOST 1048576: true; the input reads as it did. -/
def regNextsUptoRow : OpenClaim := { program := "ytchgeaklaeoplaa", sum := "3d90295fe82a849762da0dcaf0064943982dfecb408f892aeceb6d49453d0b20", func := "emender/emenderlaw06.RegNexts", spec := "regNexts", unfollowed := true, recurses := true, loops := true, apart := false, narrowed := true }
def RegNextsUptoSaid : Prop := regNextsUptoRow.holds Try.pinned (OpenSpec.upto regNextsSpec)

end Rows
end Go.Proofs.Ytchgeaklaeoplaa
