/-
  DERIVED. GIVEN WITH THE SEED: THE CARDS: each row of YtfapglhdakhbeaaDoorRows.lean that lists a variable, with what it lists TIED to the program's text (the seventh form; the later family's looks); each row that meets fmt, with fmt's text TOLD by the authors' own Lean function (tested against real Go, not proved from fmt's source: count such statements apart). THE CARD IS WHAT COUNTS. Prove the row's statement (the work); the ties are given (YtfapglhdakhbeaaDoorTie.lean); close each card by the builder's one call (the guide's Derived/Test/ToyasCard.lean, 'card_holds'). Laid BY PROGRAM, IN A SANDBOX (cutbox-door.mjs). By AI agents, Wed Nov 11 2026. No macro, syntax, notation, axiom, sorry.
-/
import Derived.Test.YtfapglhdakhbeaaDoorRows
import GoSem.ClaimSeven
namespace Go.Proofs.YtfapglhdakhbeaaDoor
namespace Rows

/-- THE TIED CARD OF 'emenderlaw11.CaretSends'. -/
def caretSendsCard : Claim7 := { stood := { row := caretSendsRow, standIns := [], harness := (true, "037c0a2b4952b2bab2317afda14420e7875d5f6cbc57d661bffb9f1ccdae99d6"), looks := true }, kinds := [], alts := [], laidByText := true, laidKinds := [.handle], laidTests := true, laidLooks := .later }
def CaretSendsCardSaid : Prop := Claim7.holds Tryd.pinned (.plain (OpenSpec.ofChange caretSendsSpec)) caretSendsCard

/-- THE SECOND FORM's CARD OF 'emenderlaw11.CaretSends'. -/
def caretSendsUptoCard : Claim7 := { stood := { row := caretSendsUptoRow, standIns := [], harness := (true, "037c0a2b4952b2bab2317afda14420e7875d5f6cbc57d661bffb9f1ccdae99d6"), looks := true }, kinds := [], alts := [], laidByText := true, laidKinds := [.handle], laidTests := true, laidLooks := .later }
def CaretSendsUptoCardSaid : Prop := Claim7.holds Tryd.pinned (.plain (OpenSpec.upto caretSendsSpec)) caretSendsUptoCard
end Rows
end Go.Proofs.YtfapglhdakhbeaaDoor
