/-
  NARROWER THAN 'FOR EVERY INPUT', by the rows' own cells (each row's printed sentence says how): FieldsReads: laid · FieldsWrites: laid · FieldsBack: laid · FieldsCat: laid · FieldsTable: laid.
  DERIVED. THE GIVEN ROWS OF THIS SEAT. 5 by the template 'for every input the law returns true; each argument reads behind the call as it read before'; 0 by the template 'total and deterministic' (their statements: YtoigojlemffikaaDoorTotals.lean).
  GIVEN WITH THE SEED: the statements are not yours to turn. If you find one false, say at which input.
  Laid BY PROGRAM, IN A SANDBOX (cutbox-rows.mjs): the forced cells as the released guide's own fill.sh prints them over the translation 539703372743b262… (all of the seat's roots in one cut). By AI agents, Wed Nov 11 2026. No macro, syntax, notation, axiom, sorry.
-/
import Derived.Test.YtoigojlemffikaaDoorChecked
import GoSem.Claim
import GoSem.ClaimJoined
import GoSem.ClaimMapViews
import Derived.JoinedTies
import Derived.KernelRfl
namespace Go.Proofs.YtoigojlemffikaaDoor
/- THE CELL 'sum', in the pinned program and in every row, IS THE sha256 OF THE DUMP (.gsa) THAT YtoigojlemffikaaDoorProg.lean LOADS. Nothing in Lean hashes anything: it is a label: what it is worth is what the hold of that sum in a sandbox is worth. -/
noncomputable def Tryd.pinned : Pinned := { name := "ytoigojlemffikaadoor", sum := "539703372743b26296299d7478646ea44441830d8557d361be4ba92291ce9ebc", checked := Tryd.checked }
namespace Rows
def none {H : Type} : Left H := { results := [], args := [] }

/- WHAT THE LISTED PACKAGE-LEVEL VARIABLES READ AS WHEN THE CALL BEGINS. Each datum BY PROGRAM (the guide's laid-datum.mjs) off the statement by which the dump's own 'gosem.cut.vars' lays the variable. In a bare row this is a premise. The card (YtoigojlemffikaaDoorCards.lean) ties it to the program's text. -/
def laid_vizard_varint_sizes {H : Type} : DataW H := .agg [.lit (.int .i64 1), .lit (.int .i64 2), .lit (.int .i64 4), .lit (.int .i64 8)]
def laid_vizard_fields_table {H : Type} : DataW H := .agg [.agg [.lit (.string [58, 97, 117, 116, 104, 111, 114, 105, 116, 121]), .lit (.string [])], .agg [.lit (.string [58, 112, 97, 116, 104]), .lit (.string [47])], .agg [.lit (.string [58, 109, 101, 116, 104, 111, 100]), .lit (.string [67, 79, 78, 78, 69, 67, 84])], .agg [.lit (.string [58, 109, 101, 116, 104, 111, 100]), .lit (.string [71, 69, 84])], .agg [.lit (.string [58, 115, 99, 104, 101, 109, 101]), .lit (.string [104, 116, 116, 112, 115])], .agg [.lit (.string [58, 115, 99, 104, 101, 109, 101]), .lit (.string [104, 116, 116, 112])], .agg [.lit (.string [58, 112, 114, 111, 116, 111, 99, 111, 108]), .lit (.string [99, 111, 110, 110, 101, 99, 116, 45, 117, 100, 112])], .agg [.lit (.string [58, 112, 114, 111, 116, 111, 99, 111, 108]), .lit (.string [99, 111, 110, 110, 101, 99, 116, 45, 105, 112])], .agg [.lit (.string [58, 115, 116, 97, 116, 117, 115]), .lit (.string [50, 48, 48])], .agg [.lit (.string [58, 115, 116, 97, 116, 117, 115]), .lit (.string [52, 48, 48])], .agg [.lit (.string [58, 115, 116, 97, 116, 117, 115]), .lit (.string [52, 48, 51])], .agg [.lit (.string [58, 115, 116, 97, 116, 117, 115]), .lit (.string [52, 48, 52])], .agg [.lit (.string [58, 115, 116, 97, 116, 117, 115]), .lit (.string [52, 50, 57])], .agg [.lit (.string [58, 115, 116, 97, 116, 117, 115]), .lit (.string [53, 48, 48])], .agg [.lit (.string [58, 115, 116, 97, 116, 117, 115]), .lit (.string [53, 48, 51])], .agg [.lit (.string [99, 97, 112, 115, 117, 108, 101, 45, 112, 114, 111, 116, 111, 99, 111, 108]), .lit (.string [63, 49])], .agg [.lit (.string [99, 111, 110, 116, 101, 110, 116, 45, 116, 121, 112, 101]), .lit (.string [116, 101, 120, 116, 47, 112, 108, 97, 105, 110])], .agg [.lit (.string [112, 114, 111, 120, 121, 45, 115, 116, 97, 116, 117, 115]), .lit (.string [])], .agg [.lit (.string [117, 115, 101, 114, 45, 97, 103, 101, 110, 116]), .lit (.string [])], .agg [.lit (.string [97, 99, 99, 101, 112, 116]), .lit (.string [42, 47, 42])]]

/-- 'vizardlaw14.FieldsReads': WHATEVER THE INPUT: true; the input reads as it did. -/
def fieldsReadsSpec : ChangeSpec := { name := "fieldsReads", fn := fun _ => fun
  | [d1, d2] => { results := [.lit (.bool true)], args := [d1, d2] }
  | _ => none }
def fieldsReadsRow : OpenClaim := { program := "ytoigojlemffikaadoor", sum := "539703372743b26296299d7478646ea44441830d8557d361be4ba92291ce9ebc", func := "vizard/vizardlaw14.FieldsReads", spec := "fieldsReads", named := ["vizard/fields.table", "vizard/varint.sizes"], apart := false, laid := [("vizard/varint.sizes", laid_vizard_varint_sizes), ("vizard/fields.table", laid_vizard_fields_table)] }
def FieldsReadsSaid : Prop := fieldsReadsRow.holds Tryd.pinned (OpenSpec.ofChange fieldsReadsSpec)

/-- ITS FALSE NEIGHBOUR: 'it returns false'. Refute it at one input. -/
def fieldsReadsWrong : ChangeSpec := { name := "fieldsReads", fn := fun _ => fun
  | [d1, d2] => { results := [.lit (.bool false)], args := [d1, d2] }
  | _ => none }
def FieldsReadsWrongFalsely : Prop := fieldsReadsRow.holds Tryd.pinned (OpenSpec.ofChange fieldsReadsWrong)

/-- 'vizardlaw14.FieldsWrites': WHATEVER THE INPUT: true; the input reads as it did. -/
def fieldsWritesSpec : ChangeSpec := { name := "fieldsWrites", fn := fun _ => fun
  | [d1, d2] => { results := [.lit (.bool true)], args := [d1, d2] }
  | _ => none }
def fieldsWritesRow : OpenClaim := { program := "ytoigojlemffikaadoor", sum := "539703372743b26296299d7478646ea44441830d8557d361be4ba92291ce9ebc", func := "vizard/vizardlaw14.FieldsWrites", spec := "fieldsWrites", inPlace := ["internal/abi.NoEscape"], recurses := true, named := ["vizard/fields.table", "vizard/varint.sizes"], apart := false, laid := [("vizard/varint.sizes", laid_vizard_varint_sizes), ("vizard/fields.table", laid_vizard_fields_table)] }
def FieldsWritesSaid : Prop := fieldsWritesRow.holds Tryd.pinned (OpenSpec.ofChange fieldsWritesSpec)

/-- ITS FALSE NEIGHBOUR: 'it returns false'. Refute it at one input. -/
def fieldsWritesWrong : ChangeSpec := { name := "fieldsWrites", fn := fun _ => fun
  | [d1, d2] => { results := [.lit (.bool false)], args := [d1, d2] }
  | _ => none }
def FieldsWritesWrongFalsely : Prop := fieldsWritesRow.holds Tryd.pinned (OpenSpec.ofChange fieldsWritesWrong)

/-- 'vizardlaw14.FieldsBack': WHATEVER THE INPUT: true; the input reads as it did. -/
def fieldsBackSpec : ChangeSpec := { name := "fieldsBack", fn := fun _ => fun
  | [d1, d2] => { results := [.lit (.bool true)], args := [d1, d2] }
  | _ => none }
def fieldsBackRow : OpenClaim := { program := "ytoigojlemffikaadoor", sum := "539703372743b26296299d7478646ea44441830d8557d361be4ba92291ce9ebc", func := "vizard/vizardlaw14.FieldsBack", spec := "fieldsBack", inPlace := ["internal/abi.NoEscape"], named := ["vizard/fields.table", "vizard/varint.sizes"], apart := false, laid := [("vizard/varint.sizes", laid_vizard_varint_sizes), ("vizard/fields.table", laid_vizard_fields_table)] }
def FieldsBackSaid : Prop := fieldsBackRow.holds Tryd.pinned (OpenSpec.ofChange fieldsBackSpec)

/-- ITS FALSE NEIGHBOUR: 'it returns false'. Refute it at one input. -/
def fieldsBackWrong : ChangeSpec := { name := "fieldsBack", fn := fun _ => fun
  | [d1, d2] => { results := [.lit (.bool false)], args := [d1, d2] }
  | _ => none }
def FieldsBackWrongFalsely : Prop := fieldsBackRow.holds Tryd.pinned (OpenSpec.ofChange fieldsBackWrong)

/-- 'vizardlaw14.FieldsCat': WHATEVER THE INPUT: true; the input reads as it did. -/
def fieldsCatSpec : ChangeSpec := { name := "fieldsCat", fn := fun _ => fun
  | [d1, d2] => { results := [.lit (.bool true)], args := [d1, d2] }
  | _ => none }
def fieldsCatRow : OpenClaim := { program := "ytoigojlemffikaadoor", sum := "539703372743b26296299d7478646ea44441830d8557d361be4ba92291ce9ebc", func := "vizard/vizardlaw14.FieldsCat", spec := "fieldsCat", inPlace := ["internal/abi.NoEscape"], named := ["vizard/fields.table", "vizard/varint.sizes"], apart := false, laid := [("vizard/varint.sizes", laid_vizard_varint_sizes), ("vizard/fields.table", laid_vizard_fields_table)] }
def FieldsCatSaid : Prop := fieldsCatRow.holds Tryd.pinned (OpenSpec.ofChange fieldsCatSpec)

/-- ITS FALSE NEIGHBOUR: 'it returns false'. Refute it at one input. -/
def fieldsCatWrong : ChangeSpec := { name := "fieldsCat", fn := fun _ => fun
  | [d1, d2] => { results := [.lit (.bool false)], args := [d1, d2] }
  | _ => none }
def FieldsCatWrongFalsely : Prop := fieldsCatRow.holds Tryd.pinned (OpenSpec.ofChange fieldsCatWrong)

/-- 'vizardlaw14.FieldsTable': WHATEVER THE INPUT: true; the input reads as it did. -/
def fieldsTableSpec : ChangeSpec := { name := "fieldsTable", fn := fun _ => fun
  | [d] => { results := [.lit (.bool true)], args := [d] }
  | _ => none }
def fieldsTableRow : OpenClaim := { program := "ytoigojlemffikaadoor", sum := "539703372743b26296299d7478646ea44441830d8557d361be4ba92291ce9ebc", func := "vizard/vizardlaw14.FieldsTable", spec := "fieldsTable", inPlace := ["internal/abi.NoEscape"], named := ["vizard/fields.table", "vizard/varint.sizes"], apart := false, laid := [("vizard/varint.sizes", laid_vizard_varint_sizes), ("vizard/fields.table", laid_vizard_fields_table)] }
def FieldsTableSaid : Prop := fieldsTableRow.holds Tryd.pinned (OpenSpec.ofChange fieldsTableSpec)

/-- ITS FALSE NEIGHBOUR: 'it returns false'. Refute it at one input. -/
def fieldsTableWrong : ChangeSpec := { name := "fieldsTable", fn := fun _ => fun
  | [d] => { results := [.lit (.bool false)], args := [d] }
  | _ => none }
def FieldsTableWrongFalsely : Prop := fieldsTableRow.holds Tryd.pinned (OpenSpec.ofChange fieldsTableWrong)

/- THE SECOND FORM. 'bulk': how many values and letters a reading holds, each counted each time it is reached (what is shared counts as often as it is met; a slice's spare places count too). A statement '..UptoSaid' is the law's where the arguments, and the package variables that the reading takes, are together of bulk at most 1048576: NARROWER than '..Said'. Prove '..Said' where nothing that the law and all that it calls make is longer than what came in: it says more and counts as full. Else prove '..UptoSaid'. A law counts once. -/
mutual
def uptoBulk {H : Type} : DataW H → Nat
  | .lit (.string bytes) => bytes.length + 1
  | .lit _ => 1
  | .nil => 1
  | .ptr d => uptoBulk d + 1
  | .slice elems spare => uptoBulkAll elems + uptoBulkAll spare + 1
  | .agg parts => uptoBulkAll parts + 1
  | .iface _ d => uptoBulk d + 1
  | .map entries => uptoBulkEntries entries + 1
  | .held _ => 1
def uptoBulkAll {H : Type} : List (DataW H) → Nat
  | [] => 0
  | d :: r => uptoBulk d + uptoBulkAll r
def uptoBulkEntries {H : Type} : List (Lit × DataW H) → Nat
  | [] => 0
  | x :: r => uptoBulkEntry x + uptoBulkEntries r
def uptoBulkEntry {H : Type} : Lit × DataW H → Nat
  | (.string bytes, d) => bytes.length + uptoBulk d + 1
  | (_, d) => uptoBulk d + 1
 end
def uptoSmall : (H : Type) → List (DataW H) → Bool := fun _ ds => decide (uptoBulkAll ds ≤ 1048576)
def OpenSpec.upto (s : _root_.Go.ChangeSpec) : _root_.Go.OpenSpec := { _root_.Go.OpenSpec.ofChange s with cond := some uptoSmall }

/-- 'vizardlaw14.FieldsReads', WHERE WHAT IT READS IS OF BULK AT MOST 1048576: true; the input reads as it did. -/
def fieldsReadsUptoRow : OpenClaim := { program := "ytoigojlemffikaadoor", sum := "539703372743b26296299d7478646ea44441830d8557d361be4ba92291ce9ebc", func := "vizard/vizardlaw14.FieldsReads", spec := "fieldsReads", named := ["vizard/fields.table", "vizard/varint.sizes"], apart := false, laid := [("vizard/varint.sizes", laid_vizard_varint_sizes), ("vizard/fields.table", laid_vizard_fields_table)], narrowed := true }
def FieldsReadsUptoSaid : Prop := fieldsReadsUptoRow.holds Tryd.pinned (OpenSpec.upto fieldsReadsSpec)

/-- 'vizardlaw14.FieldsWrites', WHERE WHAT IT READS IS OF BULK AT MOST 1048576: true; the input reads as it did. -/
def fieldsWritesUptoRow : OpenClaim := { program := "ytoigojlemffikaadoor", sum := "539703372743b26296299d7478646ea44441830d8557d361be4ba92291ce9ebc", func := "vizard/vizardlaw14.FieldsWrites", spec := "fieldsWrites", inPlace := ["internal/abi.NoEscape"], recurses := true, named := ["vizard/fields.table", "vizard/varint.sizes"], apart := false, laid := [("vizard/varint.sizes", laid_vizard_varint_sizes), ("vizard/fields.table", laid_vizard_fields_table)], narrowed := true }
def FieldsWritesUptoSaid : Prop := fieldsWritesUptoRow.holds Tryd.pinned (OpenSpec.upto fieldsWritesSpec)

/-- 'vizardlaw14.FieldsBack', WHERE WHAT IT READS IS OF BULK AT MOST 1048576: true; the input reads as it did. -/
def fieldsBackUptoRow : OpenClaim := { program := "ytoigojlemffikaadoor", sum := "539703372743b26296299d7478646ea44441830d8557d361be4ba92291ce9ebc", func := "vizard/vizardlaw14.FieldsBack", spec := "fieldsBack", inPlace := ["internal/abi.NoEscape"], named := ["vizard/fields.table", "vizard/varint.sizes"], apart := false, laid := [("vizard/varint.sizes", laid_vizard_varint_sizes), ("vizard/fields.table", laid_vizard_fields_table)], narrowed := true }
def FieldsBackUptoSaid : Prop := fieldsBackUptoRow.holds Tryd.pinned (OpenSpec.upto fieldsBackSpec)

/-- 'vizardlaw14.FieldsCat', WHERE WHAT IT READS IS OF BULK AT MOST 1048576: true; the input reads as it did. -/
def fieldsCatUptoRow : OpenClaim := { program := "ytoigojlemffikaadoor", sum := "539703372743b26296299d7478646ea44441830d8557d361be4ba92291ce9ebc", func := "vizard/vizardlaw14.FieldsCat", spec := "fieldsCat", inPlace := ["internal/abi.NoEscape"], named := ["vizard/fields.table", "vizard/varint.sizes"], apart := false, laid := [("vizard/varint.sizes", laid_vizard_varint_sizes), ("vizard/fields.table", laid_vizard_fields_table)], narrowed := true }
def FieldsCatUptoSaid : Prop := fieldsCatUptoRow.holds Tryd.pinned (OpenSpec.upto fieldsCatSpec)

/-- 'vizardlaw14.FieldsTable', WHERE WHAT IT READS IS OF BULK AT MOST 1048576: true; the input reads as it did. -/
def fieldsTableUptoRow : OpenClaim := { program := "ytoigojlemffikaadoor", sum := "539703372743b26296299d7478646ea44441830d8557d361be4ba92291ce9ebc", func := "vizard/vizardlaw14.FieldsTable", spec := "fieldsTable", inPlace := ["internal/abi.NoEscape"], named := ["vizard/fields.table", "vizard/varint.sizes"], apart := false, laid := [("vizard/varint.sizes", laid_vizard_varint_sizes), ("vizard/fields.table", laid_vizard_fields_table)], narrowed := true }
def FieldsTableUptoSaid : Prop := fieldsTableUptoRow.holds Tryd.pinned (OpenSpec.upto fieldsTableSpec)

end Rows
end Go.Proofs.YtoigojlemffikaaDoor
