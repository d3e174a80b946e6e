/-
  DERIVED. GIVEN WITH THE SEED: THE CARDS: each row of YtofjodppljnlaaaGreatDoorRows.lean that lists a variable, with what it lists TIED to the program's text (the seventh form; the later family's looks); each row that meets fmt, with fmt's text TOLD by the authors' own Lean function (tested against real Go, not proved from fmt's source: count such statements apart). THE CARD IS WHAT COUNTS. Prove the row's statement (the work); the ties are given (YtofjodppljnlaaaGreatDoorTie.lean); close each card by the builder's one call (the guide's Derived/Test/ToyasCard.lean, 'card_holds'). Laid BY PROGRAM, IN A SANDBOX (cutbox-door.mjs). By AI agents, Wed Nov 11 2026. No macro, syntax, notation, axiom, sorry.
-/
import Derived.Test.YtofjodppljnlaaaGreatDoorRows
import GoSem.ClaimSeven
namespace Go.Proofs.YtofjodppljnlaaaGreatDoor
namespace Rows

/-- THE TIED CARD OF 'emenderlaw07.SchemaChecks'. -/
def schemaChecksCard : Claim7 := { stood := { row := schemaChecksRow, standIns := [], harness := (true, "f5b27e3b9a7e89533b8ae58d8d13ce88f22a5d17b16d350810dfde02bcbfde96"), looks := true }, kinds := [], alts := [], laidByText := true, laidKinds := [.handle], laidTests := true, laidLooks := .later }
def SchemaChecksCardSaid : Prop := Claim7.holds Tryz.pinned (.plain (OpenSpec.ofChange schemaChecksSpec)) schemaChecksCard

/-- THE TIED CARD OF 'emenderlaw11.CaretAsks'. -/
def caretAsksCard : Claim7 := { stood := { row := caretAsksRow, standIns := [], harness := (true, "f5b27e3b9a7e89533b8ae58d8d13ce88f22a5d17b16d350810dfde02bcbfde96"), looks := true }, kinds := [], alts := [], laidByText := true, laidKinds := [.handle], laidTests := true, laidLooks := .later }
def CaretAsksCardSaid : Prop := Claim7.holds Tryz.pinned (.plain (OpenSpec.ofChange caretAsksSpec)) caretAsksCard

/-- THE TIED CARD OF 'emenderlaw12.EditTexts'. -/
def editTextsCard : Claim7 := { stood := { row := editTextsRow, standIns := [], harness := (true, "f5b27e3b9a7e89533b8ae58d8d13ce88f22a5d17b16d350810dfde02bcbfde96"), looks := true }, kinds := [], alts := [], laidByText := true, laidKinds := [.handle], laidTests := true, laidLooks := .later }
def EditTextsCardSaid : Prop := Claim7.holds Tryz.pinned (.plain (OpenSpec.ofChange editTextsSpec)) editTextsCard

/-- THE TIED CARD OF 'emenderlaw12.EditRanges'. -/
def editRangesCard : Claim7 := { stood := { row := editRangesRow, standIns := [], harness := (true, "f5b27e3b9a7e89533b8ae58d8d13ce88f22a5d17b16d350810dfde02bcbfde96"), looks := true }, kinds := [], alts := [], laidByText := true, laidKinds := [.handle], laidTests := true, laidLooks := .later }
def EditRangesCardSaid : Prop := Claim7.holds Tryz.pinned (.plain (OpenSpec.ofChange editRangesSpec)) editRangesCard

/-- THE TIED CARD OF 'emenderlaw13.FitFits'. -/
def fitFitsCard : Claim7 := { stood := { row := fitFitsRow, standIns := [], harness := (true, "f5b27e3b9a7e89533b8ae58d8d13ce88f22a5d17b16d350810dfde02bcbfde96"), looks := true }, kinds := [], alts := [], laidByText := true, laidKinds := [.handle], laidTests := true, laidLooks := .later }
def FitFitsCardSaid : Prop := Claim7.holds Tryz.pinned (.plain (OpenSpec.ofChange fitFitsSpec)) fitFitsCard

/-- THE TIED CARD OF 'emenderlaw12.EditBlocks'. -/
def editBlocksCard : Claim7 := { stood := { row := editBlocksRow, standIns := [], harness := (true, "f5b27e3b9a7e89533b8ae58d8d13ce88f22a5d17b16d350810dfde02bcbfde96"), looks := true }, kinds := [], alts := [], laidByText := true, laidKinds := [.handle], laidTests := true, laidLooks := .later }
def EditBlocksCardSaid : Prop := Claim7.holds Tryz.pinned (.plain (OpenSpec.ofChange editBlocksSpec)) editBlocksCard

/-- THE TIED CARD OF 'emenderlaw27.NestItems'. -/
def nestItemsCard : Claim7 := { stood := { row := nestItemsRow, standIns := [], harness := (true, "f5b27e3b9a7e89533b8ae58d8d13ce88f22a5d17b16d350810dfde02bcbfde96"), looks := true }, kinds := [], alts := [], laidByText := true, laidKinds := [.handle], laidTests := true, laidLooks := .later }
def NestItemsCardSaid : Prop := Claim7.holds Tryz.pinned (.plain (OpenSpec.ofChange nestItemsSpec)) nestItemsCard

/-- THE TIED CARD OF 'emenderlaw27.NestPuts'. -/
def nestPutsCard : Claim7 := { stood := { row := nestPutsRow, standIns := [], harness := (true, "f5b27e3b9a7e89533b8ae58d8d13ce88f22a5d17b16d350810dfde02bcbfde96"), looks := true }, kinds := [], alts := [], laidByText := true, laidKinds := [.handle], laidTests := true, laidLooks := .later }
def NestPutsCardSaid : Prop := Claim7.holds Tryz.pinned (.plain (OpenSpec.ofChange nestPutsSpec)) nestPutsCard

/-- THE TIED CARD OF 'emenderlaw12.EditDoes'. -/
def editDoesCard : Claim7 := { stood := { row := editDoesRow, standIns := [], harness := (true, "f5b27e3b9a7e89533b8ae58d8d13ce88f22a5d17b16d350810dfde02bcbfde96"), looks := true }, kinds := [], alts := [], laidByText := true, laidKinds := [.handle], laidTests := true, laidLooks := .later }
def EditDoesCardSaid : Prop := Claim7.holds Tryz.pinned (.plain (OpenSpec.ofChange editDoesSpec)) editDoesCard

/-- THE SECOND FORM's CARD OF 'emenderlaw07.SchemaChecks'. -/
def schemaChecksUptoCard : Claim7 := { stood := { row := schemaChecksUptoRow, standIns := [], harness := (true, "f5b27e3b9a7e89533b8ae58d8d13ce88f22a5d17b16d350810dfde02bcbfde96"), looks := true }, kinds := [], alts := [], laidByText := true, laidKinds := [.handle], laidTests := true, laidLooks := .later }
def SchemaChecksUptoCardSaid : Prop := Claim7.holds Tryz.pinned (.plain (OpenSpec.upto schemaChecksSpec)) schemaChecksUptoCard

/-- THE SECOND FORM's CARD OF 'emenderlaw11.CaretAsks'. -/
def caretAsksUptoCard : Claim7 := { stood := { row := caretAsksUptoRow, standIns := [], harness := (true, "f5b27e3b9a7e89533b8ae58d8d13ce88f22a5d17b16d350810dfde02bcbfde96"), looks := true }, kinds := [], alts := [], laidByText := true, laidKinds := [.handle], laidTests := true, laidLooks := .later }
def CaretAsksUptoCardSaid : Prop := Claim7.holds Tryz.pinned (.plain (OpenSpec.upto caretAsksSpec)) caretAsksUptoCard

/-- THE SECOND FORM's CARD OF 'emenderlaw12.EditTexts'. -/
def editTextsUptoCard : Claim7 := { stood := { row := editTextsUptoRow, standIns := [], harness := (true, "f5b27e3b9a7e89533b8ae58d8d13ce88f22a5d17b16d350810dfde02bcbfde96"), looks := true }, kinds := [], alts := [], laidByText := true, laidKinds := [.handle], laidTests := true, laidLooks := .later }
def EditTextsUptoCardSaid : Prop := Claim7.holds Tryz.pinned (.plain (OpenSpec.upto editTextsSpec)) editTextsUptoCard

/-- THE SECOND FORM's CARD OF 'emenderlaw12.EditRanges'. -/
def editRangesUptoCard : Claim7 := { stood := { row := editRangesUptoRow, standIns := [], harness := (true, "f5b27e3b9a7e89533b8ae58d8d13ce88f22a5d17b16d350810dfde02bcbfde96"), looks := true }, kinds := [], alts := [], laidByText := true, laidKinds := [.handle], laidTests := true, laidLooks := .later }
def EditRangesUptoCardSaid : Prop := Claim7.holds Tryz.pinned (.plain (OpenSpec.upto editRangesSpec)) editRangesUptoCard

/-- THE SECOND FORM's CARD OF 'emenderlaw13.FitFits'. -/
def fitFitsUptoCard : Claim7 := { stood := { row := fitFitsUptoRow, standIns := [], harness := (true, "f5b27e3b9a7e89533b8ae58d8d13ce88f22a5d17b16d350810dfde02bcbfde96"), looks := true }, kinds := [], alts := [], laidByText := true, laidKinds := [.handle], laidTests := true, laidLooks := .later }
def FitFitsUptoCardSaid : Prop := Claim7.holds Tryz.pinned (.plain (OpenSpec.upto fitFitsSpec)) fitFitsUptoCard

/-- THE SECOND FORM's CARD OF 'emenderlaw12.EditBlocks'. -/
def editBlocksUptoCard : Claim7 := { stood := { row := editBlocksUptoRow, standIns := [], harness := (true, "f5b27e3b9a7e89533b8ae58d8d13ce88f22a5d17b16d350810dfde02bcbfde96"), looks := true }, kinds := [], alts := [], laidByText := true, laidKinds := [.handle], laidTests := true, laidLooks := .later }
def EditBlocksUptoCardSaid : Prop := Claim7.holds Tryz.pinned (.plain (OpenSpec.upto editBlocksSpec)) editBlocksUptoCard

/-- THE SECOND FORM's CARD OF 'emenderlaw27.NestItems'. -/
def nestItemsUptoCard : Claim7 := { stood := { row := nestItemsUptoRow, standIns := [], harness := (true, "f5b27e3b9a7e89533b8ae58d8d13ce88f22a5d17b16d350810dfde02bcbfde96"), looks := true }, kinds := [], alts := [], laidByText := true, laidKinds := [.handle], laidTests := true, laidLooks := .later }
def NestItemsUptoCardSaid : Prop := Claim7.holds Tryz.pinned (.plain (OpenSpec.upto nestItemsSpec)) nestItemsUptoCard

/-- THE SECOND FORM's CARD OF 'emenderlaw27.NestPuts'. -/
def nestPutsUptoCard : Claim7 := { stood := { row := nestPutsUptoRow, standIns := [], harness := (true, "f5b27e3b9a7e89533b8ae58d8d13ce88f22a5d17b16d350810dfde02bcbfde96"), looks := true }, kinds := [], alts := [], laidByText := true, laidKinds := [.handle], laidTests := true, laidLooks := .later }
def NestPutsUptoCardSaid : Prop := Claim7.holds Tryz.pinned (.plain (OpenSpec.upto nestPutsSpec)) nestPutsUptoCard

/-- THE SECOND FORM's CARD OF 'emenderlaw12.EditDoes'. -/
def editDoesUptoCard : Claim7 := { stood := { row := editDoesUptoRow, standIns := [], harness := (true, "f5b27e3b9a7e89533b8ae58d8d13ce88f22a5d17b16d350810dfde02bcbfde96"), looks := true }, kinds := [], alts := [], laidByText := true, laidKinds := [.handle], laidTests := true, laidLooks := .later }
def EditDoesUptoCardSaid : Prop := Claim7.holds Tryz.pinned (.plain (OpenSpec.upto editDoesSpec)) editDoesUptoCard
end Rows
end Go.Proofs.YtofjodppljnlaaaGreatDoor
