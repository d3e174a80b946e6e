/-
  DERIVED. GIVEN WITH THE SEED: THE CARDS: each row of YtamcjdckhebmeaaDoorRows.lean that lists a variable, with what it lists TIED to the program's text (the seventh form; the later family's looks); each row that meets fmt, with fmt's text TOLD by the authors' own Lean function (tested against real Go, not proved from fmt's source: count such statements apart). THE CARD IS WHAT COUNTS. Prove the row's statement (the work); the ties are given (YtamcjdckhebmeaaDoorTie.lean); close each card by the builder's one call (the guide's Derived/Test/ToyasCard.lean, 'card_holds'). Laid BY PROGRAM, IN A SANDBOX (cutbox-door.mjs). By AI agents, Wed Nov 11 2026. No macro, syntax, notation, axiom, sorry.
-/
import Derived.Test.YtamcjdckhebmeaaDoorRows
import GoSem.ClaimSeven
namespace Go.Proofs.YtamcjdckhebmeaaDoor
namespace Rows

/-- THE TIED CARD OF 'emenderlaw11.CaretNear'. -/
def caretNearCard : Claim7 := { stood := { row := caretNearRow, standIns := [], harness := (true, "b8fa9fab6b766d4a63c5c942e2cc9924ecf873451a42c984fb156eba359ccd40"), looks := true }, kinds := [], alts := [], laidByText := true, laidKinds := [.handle], laidTests := true, laidLooks := .later }
def CaretNearCardSaid : Prop := Claim7.holds Tryd.pinned (.plain (OpenSpec.ofChange caretNearSpec)) caretNearCard

/-- THE TIED CARD OF 'emenderlaw11.CaretMoves'. -/
def caretMovesCard : Claim7 := { stood := { row := caretMovesRow, standIns := [], harness := (true, "b8fa9fab6b766d4a63c5c942e2cc9924ecf873451a42c984fb156eba359ccd40"), looks := true }, kinds := [], alts := [], laidByText := true, laidKinds := [.handle], laidTests := true, laidLooks := .later }
def CaretMovesCardSaid : Prop := Claim7.holds Tryd.pinned (.plain (OpenSpec.ofChange caretMovesSpec)) caretMovesCard

/-- THE TIED CARD OF 'emenderlaw11.CaretKeeps'. -/
def caretKeepsCard : Claim7 := { stood := { row := caretKeepsRow, standIns := [], harness := (true, "b8fa9fab6b766d4a63c5c942e2cc9924ecf873451a42c984fb156eba359ccd40"), looks := true }, kinds := [], alts := [], laidByText := true, laidKinds := [.handle], laidTests := true, laidLooks := .later }
def CaretKeepsCardSaid : Prop := Claim7.holds Tryd.pinned (.plain (OpenSpec.ofChange caretKeepsSpec)) caretKeepsCard

/-- THE SECOND FORM's CARD OF 'emenderlaw11.CaretNear'. -/
def caretNearUptoCard : Claim7 := { stood := { row := caretNearUptoRow, standIns := [], harness := (true, "b8fa9fab6b766d4a63c5c942e2cc9924ecf873451a42c984fb156eba359ccd40"), looks := true }, kinds := [], alts := [], laidByText := true, laidKinds := [.handle], laidTests := true, laidLooks := .later }
def CaretNearUptoCardSaid : Prop := Claim7.holds Tryd.pinned (.plain (OpenSpec.upto caretNearSpec)) caretNearUptoCard

/-- THE SECOND FORM's CARD OF 'emenderlaw11.CaretMoves'. -/
def caretMovesUptoCard : Claim7 := { stood := { row := caretMovesUptoRow, standIns := [], harness := (true, "b8fa9fab6b766d4a63c5c942e2cc9924ecf873451a42c984fb156eba359ccd40"), looks := true }, kinds := [], alts := [], laidByText := true, laidKinds := [.handle], laidTests := true, laidLooks := .later }
def CaretMovesUptoCardSaid : Prop := Claim7.holds Tryd.pinned (.plain (OpenSpec.upto caretMovesSpec)) caretMovesUptoCard

/-- THE SECOND FORM's CARD OF 'emenderlaw11.CaretKeeps'. -/
def caretKeepsUptoCard : Claim7 := { stood := { row := caretKeepsUptoRow, standIns := [], harness := (true, "b8fa9fab6b766d4a63c5c942e2cc9924ecf873451a42c984fb156eba359ccd40"), looks := true }, kinds := [], alts := [], laidByText := true, laidKinds := [.handle], laidTests := true, laidLooks := .later }
def CaretKeepsUptoCardSaid : Prop := Claim7.holds Tryd.pinned (.plain (OpenSpec.upto caretKeepsSpec)) caretKeepsUptoCard
end Rows
end Go.Proofs.YtamcjdckhebmeaaDoor
