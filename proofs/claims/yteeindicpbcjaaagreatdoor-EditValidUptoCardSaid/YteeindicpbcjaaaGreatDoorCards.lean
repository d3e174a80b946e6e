/-
  DERIVED. GIVEN WITH THE SEED: THE CARDS: each row of YteeindicpbcjaaaGreatDoorRows.lean that lists a variable, with what it lists TIED to the program's text (the seventh form; the later family's looks); each row that meets fmt, with fmt's text TOLD by the authors' own Lean function (tested against real Go, not proved from fmt's source: count such statements apart). THE CARD IS WHAT COUNTS. Prove the row's statement (the work); the ties are given (YteeindicpbcjaaaGreatDoorTie.lean); close each card by the builder's one call (the guide's Derived/Test/ToyasCard.lean, 'card_holds'). Laid BY PROGRAM, IN A SANDBOX (cutbox-door.mjs). By AI agents, Wed Nov 11 2026. No macro, syntax, notation, axiom, sorry.
-/
import Derived.Test.YteeindicpbcjaaaGreatDoorRows
import GoSem.ClaimSeven
namespace Go.Proofs.YteeindicpbcjaaaGreatDoor
namespace Rows

/-- THE TIED CARD OF 'emenderlaw12.EditDeletes'. -/
def editDeletesCard : Claim7 := { stood := { row := editDeletesRow, standIns := [], harness := (true, "316dbaf4e72491491816cfe66f04d0c06f38ff0e50681585af0ca9130fa1089d"), looks := true }, kinds := [], alts := [], laidByText := true, laidKinds := [.handle], laidTests := true, laidLooks := .later }
def EditDeletesCardSaid : Prop := Claim7.holds Tryz.pinned (.plain (OpenSpec.ofChange editDeletesSpec)) editDeletesCard

/-- THE TIED CARD OF 'emenderlaw12.EditRetypes'. -/
def editRetypesCard : Claim7 := { stood := { row := editRetypesRow, standIns := [], harness := (true, "316dbaf4e72491491816cfe66f04d0c06f38ff0e50681585af0ca9130fa1089d"), looks := true }, kinds := [], alts := [], laidByText := true, laidKinds := [.handle], laidTests := true, laidLooks := .later }
def EditRetypesCardSaid : Prop := Claim7.holds Tryz.pinned (.plain (OpenSpec.ofChange editRetypesSpec)) editRetypesCard

/-- THE TIED CARD OF 'emenderlaw12.EditToggles'. -/
def editTogglesCard : Claim7 := { stood := { row := editTogglesRow, standIns := [], harness := (true, "316dbaf4e72491491816cfe66f04d0c06f38ff0e50681585af0ca9130fa1089d"), looks := true }, kinds := [], alts := [], laidByText := true, laidKinds := [.handle], laidTests := true, laidLooks := .later }
def EditTogglesCardSaid : Prop := Claim7.holds Tryz.pinned (.plain (OpenSpec.ofChange editTogglesSpec)) editTogglesCard

/-- THE TIED CARD OF 'emenderlaw12.EditWraps'. -/
def editWrapsCard : Claim7 := { stood := { row := editWrapsRow, standIns := [], harness := (true, "316dbaf4e72491491816cfe66f04d0c06f38ff0e50681585af0ca9130fa1089d"), looks := true }, kinds := [], alts := [], laidByText := true, laidKinds := [.handle], laidTests := true, laidLooks := .later }
def EditWrapsCardSaid : Prop := Claim7.holds Tryz.pinned (.plain (OpenSpec.ofChange editWrapsSpec)) editWrapsCard

/-- THE TIED CARD OF 'emenderlaw12.EditSplits'. -/
def editSplitsCard : Claim7 := { stood := { row := editSplitsRow, standIns := [], harness := (true, "316dbaf4e72491491816cfe66f04d0c06f38ff0e50681585af0ca9130fa1089d"), looks := true }, kinds := [], alts := [], laidByText := true, laidKinds := [.handle], laidTests := true, laidLooks := .later }
def EditSplitsCardSaid : Prop := Claim7.holds Tryz.pinned (.plain (OpenSpec.ofChange editSplitsSpec)) editSplitsCard

/-- THE TIED CARD OF 'emenderlaw12.EditLifts'. -/
def editLiftsCard : Claim7 := { stood := { row := editLiftsRow, standIns := [], harness := (true, "316dbaf4e72491491816cfe66f04d0c06f38ff0e50681585af0ca9130fa1089d"), looks := true }, kinds := [], alts := [], laidByText := true, laidKinds := [.handle], laidTests := true, laidLooks := .later }
def EditLiftsCardSaid : Prop := Claim7.holds Tryz.pinned (.plain (OpenSpec.ofChange editLiftsSpec)) editLiftsCard

/-- THE TIED CARD OF 'emenderlaw12.EditValid'. -/
def editValidCard : Claim7 := { stood := { row := editValidRow, standIns := [], harness := (true, "316dbaf4e72491491816cfe66f04d0c06f38ff0e50681585af0ca9130fa1089d"), looks := true }, kinds := [], alts := [], laidByText := true, laidKinds := [.handle], laidTests := true, laidLooks := .later }
def EditValidCardSaid : Prop := Claim7.holds Tryz.pinned (.plain (OpenSpec.ofChange editValidSpec)) editValidCard

/-- THE TIED CARD OF 'emenderlaw13.FitValid'. -/
def fitValidCard : Claim7 := { stood := { row := fitValidRow, standIns := [], harness := (true, "316dbaf4e72491491816cfe66f04d0c06f38ff0e50681585af0ca9130fa1089d"), looks := true }, kinds := [], alts := [], laidByText := true, laidKinds := [.handle], laidTests := true, laidLooks := .later }
def FitValidCardSaid : Prop := Claim7.holds Tryz.pinned (.plain (OpenSpec.ofChange fitValidSpec)) fitValidCard

/-- THE TIED CARD OF 'emenderlaw13.FitLetters'. -/
def fitLettersCard : Claim7 := { stood := { row := fitLettersRow, standIns := [], harness := (true, "316dbaf4e72491491816cfe66f04d0c06f38ff0e50681585af0ca9130fa1089d"), looks := true }, kinds := [], alts := [], laidByText := true, laidKinds := [.handle], laidTests := true, laidLooks := .later }
def FitLettersCardSaid : Prop := Claim7.holds Tryz.pinned (.plain (OpenSpec.ofChange fitLettersSpec)) fitLettersCard

/-- THE SECOND FORM's CARD OF 'emenderlaw12.EditDeletes'. -/
def editDeletesUptoCard : Claim7 := { stood := { row := editDeletesUptoRow, standIns := [], harness := (true, "316dbaf4e72491491816cfe66f04d0c06f38ff0e50681585af0ca9130fa1089d"), looks := true }, kinds := [], alts := [], laidByText := true, laidKinds := [.handle], laidTests := true, laidLooks := .later }
def EditDeletesUptoCardSaid : Prop := Claim7.holds Tryz.pinned (.plain (OpenSpec.upto editDeletesSpec)) editDeletesUptoCard

/-- THE SECOND FORM's CARD OF 'emenderlaw12.EditRetypes'. -/
def editRetypesUptoCard : Claim7 := { stood := { row := editRetypesUptoRow, standIns := [], harness := (true, "316dbaf4e72491491816cfe66f04d0c06f38ff0e50681585af0ca9130fa1089d"), looks := true }, kinds := [], alts := [], laidByText := true, laidKinds := [.handle], laidTests := true, laidLooks := .later }
def EditRetypesUptoCardSaid : Prop := Claim7.holds Tryz.pinned (.plain (OpenSpec.upto editRetypesSpec)) editRetypesUptoCard

/-- THE SECOND FORM's CARD OF 'emenderlaw12.EditToggles'. -/
def editTogglesUptoCard : Claim7 := { stood := { row := editTogglesUptoRow, standIns := [], harness := (true, "316dbaf4e72491491816cfe66f04d0c06f38ff0e50681585af0ca9130fa1089d"), looks := true }, kinds := [], alts := [], laidByText := true, laidKinds := [.handle], laidTests := true, laidLooks := .later }
def EditTogglesUptoCardSaid : Prop := Claim7.holds Tryz.pinned (.plain (OpenSpec.upto editTogglesSpec)) editTogglesUptoCard

/-- THE SECOND FORM's CARD OF 'emenderlaw12.EditWraps'. -/
def editWrapsUptoCard : Claim7 := { stood := { row := editWrapsUptoRow, standIns := [], harness := (true, "316dbaf4e72491491816cfe66f04d0c06f38ff0e50681585af0ca9130fa1089d"), looks := true }, kinds := [], alts := [], laidByText := true, laidKinds := [.handle], laidTests := true, laidLooks := .later }
def EditWrapsUptoCardSaid : Prop := Claim7.holds Tryz.pinned (.plain (OpenSpec.upto editWrapsSpec)) editWrapsUptoCard

/-- THE SECOND FORM's CARD OF 'emenderlaw12.EditSplits'. -/
def editSplitsUptoCard : Claim7 := { stood := { row := editSplitsUptoRow, standIns := [], harness := (true, "316dbaf4e72491491816cfe66f04d0c06f38ff0e50681585af0ca9130fa1089d"), looks := true }, kinds := [], alts := [], laidByText := true, laidKinds := [.handle], laidTests := true, laidLooks := .later }
def EditSplitsUptoCardSaid : Prop := Claim7.holds Tryz.pinned (.plain (OpenSpec.upto editSplitsSpec)) editSplitsUptoCard

/-- THE SECOND FORM's CARD OF 'emenderlaw12.EditLifts'. -/
def editLiftsUptoCard : Claim7 := { stood := { row := editLiftsUptoRow, standIns := [], harness := (true, "316dbaf4e72491491816cfe66f04d0c06f38ff0e50681585af0ca9130fa1089d"), looks := true }, kinds := [], alts := [], laidByText := true, laidKinds := [.handle], laidTests := true, laidLooks := .later }
def EditLiftsUptoCardSaid : Prop := Claim7.holds Tryz.pinned (.plain (OpenSpec.upto editLiftsSpec)) editLiftsUptoCard

/-- THE SECOND FORM's CARD OF 'emenderlaw12.EditValid'. -/
def editValidUptoCard : Claim7 := { stood := { row := editValidUptoRow, standIns := [], harness := (true, "316dbaf4e72491491816cfe66f04d0c06f38ff0e50681585af0ca9130fa1089d"), looks := true }, kinds := [], alts := [], laidByText := true, laidKinds := [.handle], laidTests := true, laidLooks := .later }
def EditValidUptoCardSaid : Prop := Claim7.holds Tryz.pinned (.plain (OpenSpec.upto editValidSpec)) editValidUptoCard

/-- THE SECOND FORM's CARD OF 'emenderlaw13.FitValid'. -/
def fitValidUptoCard : Claim7 := { stood := { row := fitValidUptoRow, standIns := [], harness := (true, "316dbaf4e72491491816cfe66f04d0c06f38ff0e50681585af0ca9130fa1089d"), looks := true }, kinds := [], alts := [], laidByText := true, laidKinds := [.handle], laidTests := true, laidLooks := .later }
def FitValidUptoCardSaid : Prop := Claim7.holds Tryz.pinned (.plain (OpenSpec.upto fitValidSpec)) fitValidUptoCard

/-- THE SECOND FORM's CARD OF 'emenderlaw13.FitLetters'. -/
def fitLettersUptoCard : Claim7 := { stood := { row := fitLettersUptoRow, standIns := [], harness := (true, "316dbaf4e72491491816cfe66f04d0c06f38ff0e50681585af0ca9130fa1089d"), looks := true }, kinds := [], alts := [], laidByText := true, laidKinds := [.handle], laidTests := true, laidLooks := .later }
def FitLettersUptoCardSaid : Prop := Claim7.holds Tryz.pinned (.plain (OpenSpec.upto fitLettersSpec)) fitLettersUptoCard
end Rows
end Go.Proofs.YteeindicpbcjaaaGreatDoor
