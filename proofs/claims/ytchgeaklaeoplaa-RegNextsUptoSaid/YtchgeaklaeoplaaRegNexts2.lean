/- emenderlaw06.RegNexts: both ways. -/
import Derived.Test.YtchgeaklaeoplaaRegNextsA
import Derived.Test.YtchgeaklaeoplaaRegNextsB
namespace Go.Proofs.Ytchgeaklaeoplaa
open Go.RowKit
theorem RegNexts_walk {w : World} {A Bg Aw : Option Addr} {c d cw : Nat} {e : Ex} {g : List Grp} {word : List Int} (hm : MadeC w A Bg e g) (hw : intR.row w (fun k => k < w.heap.size) Aw word) (hwl : word.length ≤ 1048576) (hwc : word.length ≤ cw) :
    Calls Try.prog 7 #[e.val A c, .slice Bg g.length d, .slice Aw word.length cw] w fun r w' => r = .returned (.bool true) ∧ Pure w w' := by
  cases hac : regAccepts e g word
  · exact RegNextsA_walk hm hw hwl hwc hac
  · exact RegNextsB_walk hm hw hwl hwc hac
end Go.Proofs.Ytchgeaklaeoplaa
