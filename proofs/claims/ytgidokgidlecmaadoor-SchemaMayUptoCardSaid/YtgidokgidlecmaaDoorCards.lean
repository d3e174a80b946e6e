/-
  DERIVED. GIVEN WITH THE SEED: THE CARDS: each row of YtgidokgidlecmaaDoorRows.lean that lists a variable, with what it lists TIED to the program's text (the seventh form; the later family's looks); each row that meets fmt, with fmt's text TOLD by the authors' own Lean function (tested against real Go, not proved from fmt's source: count such statements apart). THE CARD IS WHAT COUNTS. Prove the row's statement (the work); the ties are given (YtgidokgidlecmaaDoorTie.lean); close each card by the builder's one call (the guide's Derived/Test/ToyasCard.lean, 'card_holds'). Laid BY PROGRAM, IN A SANDBOX (cutbox-door.mjs). By AI agents, Wed Nov 11 2026. No macro, syntax, notation, axiom, sorry.
-/
import Derived.Test.YtgidokgidlecmaaDoorRows
import GoSem.ClaimSeven
namespace Go.Proofs.YtgidokgidlecmaaDoor
namespace Rows

/-- THE TIED CARD OF 'emenderlaw07.SchemaWhole'. -/
def schemaWholeCard : Claim7 := { stood := { row := schemaWholeRow, standIns := [], harness := (true, "385a5ebee5bade70dd204b5f64c4394ade49c59ee948dbc6f5c639628c9f627a"), looks := true }, kinds := [], alts := [], laidByText := true, laidKinds := [.handle], laidTests := true, laidLooks := .later }
def SchemaWholeCardSaid : Prop := Claim7.holds Tryd.pinned (.plain (OpenSpec.ofChange schemaWholeSpec)) schemaWholeCard

/-- THE TIED CARD OF 'emenderlaw07.SchemaJoins'. -/
def schemaJoinsCard : Claim7 := { stood := { row := schemaJoinsRow, standIns := [], harness := (true, "385a5ebee5bade70dd204b5f64c4394ade49c59ee948dbc6f5c639628c9f627a"), looks := true }, kinds := [], alts := [], laidByText := true, laidKinds := [.handle], laidTests := true, laidLooks := .later }
def SchemaJoinsCardSaid : Prop := Claim7.holds Tryd.pinned (.plain (OpenSpec.ofChange schemaJoinsSpec)) schemaJoinsCard

/-- THE TIED CARD OF 'emenderlaw07.SchemaMay'. -/
def schemaMayCard : Claim7 := { stood := { row := schemaMayRow, standIns := [], harness := (true, "385a5ebee5bade70dd204b5f64c4394ade49c59ee948dbc6f5c639628c9f627a"), looks := true }, kinds := [], alts := [], laidByText := true, laidKinds := [.handle], laidTests := true, laidLooks := .later }
def SchemaMayCardSaid : Prop := Claim7.holds Tryd.pinned (.plain (OpenSpec.ofChange schemaMaySpec)) schemaMayCard

/-- THE SECOND FORM's CARD OF 'emenderlaw07.SchemaWhole'. -/
def schemaWholeUptoCard : Claim7 := { stood := { row := schemaWholeUptoRow, standIns := [], harness := (true, "385a5ebee5bade70dd204b5f64c4394ade49c59ee948dbc6f5c639628c9f627a"), looks := true }, kinds := [], alts := [], laidByText := true, laidKinds := [.handle], laidTests := true, laidLooks := .later }
def SchemaWholeUptoCardSaid : Prop := Claim7.holds Tryd.pinned (.plain (OpenSpec.upto schemaWholeSpec)) schemaWholeUptoCard

/-- THE SECOND FORM's CARD OF 'emenderlaw07.SchemaJoins'. -/
def schemaJoinsUptoCard : Claim7 := { stood := { row := schemaJoinsUptoRow, standIns := [], harness := (true, "385a5ebee5bade70dd204b5f64c4394ade49c59ee948dbc6f5c639628c9f627a"), looks := true }, kinds := [], alts := [], laidByText := true, laidKinds := [.handle], laidTests := true, laidLooks := .later }
def SchemaJoinsUptoCardSaid : Prop := Claim7.holds Tryd.pinned (.plain (OpenSpec.upto schemaJoinsSpec)) schemaJoinsUptoCard

/-- THE SECOND FORM's CARD OF 'emenderlaw07.SchemaMay'. -/
def schemaMayUptoCard : Claim7 := { stood := { row := schemaMayUptoRow, standIns := [], harness := (true, "385a5ebee5bade70dd204b5f64c4394ade49c59ee948dbc6f5c639628c9f627a"), looks := true }, kinds := [], alts := [], laidByText := true, laidKinds := [.handle], laidTests := true, laidLooks := .later }
def SchemaMayUptoCardSaid : Prop := Claim7.holds Tryd.pinned (.plain (OpenSpec.upto schemaMaySpec)) schemaMayUptoCard
end Rows
end Go.Proofs.YtgidokgidlecmaaDoor
