/-
  DERIVED. GIVEN WITH THE SEED: THE CARDS: each row of YtoigojlemffikaaDoorRows.lean that lists a variable, with what it lists TIED to the program's text (the seventh form; the later family's looks); each row that meets fmt, with fmt's text TOLD by the authors' own Lean function (tested against real Go, not proved from fmt's source: count such statements apart). THE CARD IS WHAT COUNTS. Prove the row's statement (the work); the ties are given (YtoigojlemffikaaDoorTie.lean); close each card by the builder's one call (the guide's Derived/Test/ToyasCard.lean, 'card_holds'). Laid BY PROGRAM, IN A SANDBOX (cutbox-door.mjs). By AI agents, Wed Nov 11 2026. No macro, syntax, notation, axiom, sorry.
-/
import Derived.Test.YtoigojlemffikaaDoorRows
import GoSem.ClaimSeven
namespace Go.Proofs.YtoigojlemffikaaDoor
namespace Rows

/-- THE TIED CARD OF 'vizardlaw14.FieldsReads'. -/
def fieldsReadsCard : Claim7 := { stood := { row := fieldsReadsRow, standIns := [], harness := (true, "fdfbcae60fa5c8c96dcc45ba4b174245fb95c888c94ba18336e18543f308fdb9"), looks := false }, kinds := [], alts := [], laidByText := true, laidKinds := [.data, .data], laidTests := true, laidLooks := .later }
def FieldsReadsCardSaid : Prop := Claim7.holds Tryd.pinned (.plain (OpenSpec.ofChange fieldsReadsSpec)) fieldsReadsCard

/-- THE TIED CARD OF 'vizardlaw14.FieldsWrites'. -/
def fieldsWritesCard : Claim7 := { stood := { row := fieldsWritesRow, standIns := [], harness := (true, "fdfbcae60fa5c8c96dcc45ba4b174245fb95c888c94ba18336e18543f308fdb9"), looks := false }, kinds := [], alts := [], laidByText := true, laidKinds := [.data, .data], laidTests := true, laidLooks := .later }
def FieldsWritesCardSaid : Prop := Claim7.holds Tryd.pinned (.plain (OpenSpec.ofChange fieldsWritesSpec)) fieldsWritesCard

/-- THE TIED CARD OF 'vizardlaw14.FieldsBack'. -/
def fieldsBackCard : Claim7 := { stood := { row := fieldsBackRow, standIns := [], harness := (true, "fdfbcae60fa5c8c96dcc45ba4b174245fb95c888c94ba18336e18543f308fdb9"), looks := false }, kinds := [], alts := [], laidByText := true, laidKinds := [.data, .data], laidTests := true, laidLooks := .later }
def FieldsBackCardSaid : Prop := Claim7.holds Tryd.pinned (.plain (OpenSpec.ofChange fieldsBackSpec)) fieldsBackCard

/-- THE TIED CARD OF 'vizardlaw14.FieldsCat'. -/
def fieldsCatCard : Claim7 := { stood := { row := fieldsCatRow, standIns := [], harness := (true, "fdfbcae60fa5c8c96dcc45ba4b174245fb95c888c94ba18336e18543f308fdb9"), looks := false }, kinds := [], alts := [], laidByText := true, laidKinds := [.data, .data], laidTests := true, laidLooks := .later }
def FieldsCatCardSaid : Prop := Claim7.holds Tryd.pinned (.plain (OpenSpec.ofChange fieldsCatSpec)) fieldsCatCard

/-- THE TIED CARD OF 'vizardlaw14.FieldsTable'. -/
def fieldsTableCard : Claim7 := { stood := { row := fieldsTableRow, standIns := [], harness := (true, "fdfbcae60fa5c8c96dcc45ba4b174245fb95c888c94ba18336e18543f308fdb9"), looks := false }, kinds := [], alts := [], laidByText := true, laidKinds := [.data, .data], laidTests := true, laidLooks := .later }
def FieldsTableCardSaid : Prop := Claim7.holds Tryd.pinned (.plain (OpenSpec.ofChange fieldsTableSpec)) fieldsTableCard

/-- THE SECOND FORM's CARD OF 'vizardlaw14.FieldsReads'. -/
def fieldsReadsUptoCard : Claim7 := { stood := { row := fieldsReadsUptoRow, standIns := [], harness := (true, "fdfbcae60fa5c8c96dcc45ba4b174245fb95c888c94ba18336e18543f308fdb9"), looks := false }, kinds := [], alts := [], laidByText := true, laidKinds := [.data, .data], laidTests := true, laidLooks := .later }
def FieldsReadsUptoCardSaid : Prop := Claim7.holds Tryd.pinned (.plain (OpenSpec.upto fieldsReadsSpec)) fieldsReadsUptoCard

/-- THE SECOND FORM's CARD OF 'vizardlaw14.FieldsWrites'. -/
def fieldsWritesUptoCard : Claim7 := { stood := { row := fieldsWritesUptoRow, standIns := [], harness := (true, "fdfbcae60fa5c8c96dcc45ba4b174245fb95c888c94ba18336e18543f308fdb9"), looks := false }, kinds := [], alts := [], laidByText := true, laidKinds := [.data, .data], laidTests := true, laidLooks := .later }
def FieldsWritesUptoCardSaid : Prop := Claim7.holds Tryd.pinned (.plain (OpenSpec.upto fieldsWritesSpec)) fieldsWritesUptoCard

/-- THE SECOND FORM's CARD OF 'vizardlaw14.FieldsBack'. -/
def fieldsBackUptoCard : Claim7 := { stood := { row := fieldsBackUptoRow, standIns := [], harness := (true, "fdfbcae60fa5c8c96dcc45ba4b174245fb95c888c94ba18336e18543f308fdb9"), looks := false }, kinds := [], alts := [], laidByText := true, laidKinds := [.data, .data], laidTests := true, laidLooks := .later }
def FieldsBackUptoCardSaid : Prop := Claim7.holds Tryd.pinned (.plain (OpenSpec.upto fieldsBackSpec)) fieldsBackUptoCard

/-- THE SECOND FORM's CARD OF 'vizardlaw14.FieldsCat'. -/
def fieldsCatUptoCard : Claim7 := { stood := { row := fieldsCatUptoRow, standIns := [], harness := (true, "fdfbcae60fa5c8c96dcc45ba4b174245fb95c888c94ba18336e18543f308fdb9"), looks := false }, kinds := [], alts := [], laidByText := true, laidKinds := [.data, .data], laidTests := true, laidLooks := .later }
def FieldsCatUptoCardSaid : Prop := Claim7.holds Tryd.pinned (.plain (OpenSpec.upto fieldsCatSpec)) fieldsCatUptoCard

/-- THE SECOND FORM's CARD OF 'vizardlaw14.FieldsTable'. -/
def fieldsTableUptoCard : Claim7 := { stood := { row := fieldsTableUptoRow, standIns := [], harness := (true, "fdfbcae60fa5c8c96dcc45ba4b174245fb95c888c94ba18336e18543f308fdb9"), looks := false }, kinds := [], alts := [], laidByText := true, laidKinds := [.data, .data], laidTests := true, laidLooks := .later }
def FieldsTableUptoCardSaid : Prop := Claim7.holds Tryd.pinned (.plain (OpenSpec.upto fieldsTableSpec)) fieldsTableUptoCard
end Rows
end Go.Proofs.YtoigojlemffikaaDoor
