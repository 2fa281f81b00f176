/-
  NARROWER THAN 'FOR EVERY INPUT', by the rows' own cells (each row's printed sentence says how): VarintGets: laid · VarintPuts: laid · VarintOrder: laid · VarintLonger: laid · VarintBack: laid · VarintTexts: laid.
  DERIVED. THE GIVEN ROWS OF THIS SEAT. 6 by the template 'for every input the law returns true; each argument reads behind the call as it read before'; 0 by the template 'total and deterministic' (their statements: YtbbjeifbcijkcaaDoorTotals.lean).
  GIVEN WITH THE SEED: the statements are not yours to turn. If you find one false, say at which input.
  Laid BY PROGRAM, IN A SANDBOX (cutbox-rows.mjs): the forced cells as the released guide's own fill.sh prints them over the translation 45290ad09919737b… (all of the seat's roots in one cut). By AI agents, Wed Nov 11 2026. No macro, syntax, notation, axiom, sorry.
-/
import Derived.Test.YtbbjeifbcijkcaaDoorChecked
import GoSem.Claim
import GoSem.ClaimJoined
import GoSem.ClaimMapViews
import Derived.JoinedTies
import Derived.KernelRfl
namespace Go.Proofs.YtbbjeifbcijkcaaDoor
/- THE CELL 'sum', in the pinned program and in every row, IS THE sha256 OF THE DUMP (.gsa) THAT YtbbjeifbcijkcaaDoorProg.lean LOADS. Nothing in Lean hashes anything: it is a label: what it is worth is what the hold of that sum in a sandbox is worth. -/
noncomputable def Tryd.pinned : Pinned := { name := "ytbbjeifbcijkcaadoor", sum := "45290ad09919737b3a51a2dafe850df20fcda999c49dd575fe161d80fcf8f8a5", checked := Tryd.checked }
namespace Rows
def none {H : Type} : Left H := { results := [], args := [] }

/- WHAT THE LISTED PACKAGE-LEVEL VARIABLES READ AS WHEN THE CALL BEGINS. Each datum BY PROGRAM (the guide's laid-datum.mjs) off the statement by which the dump's own 'gosem.cut.vars' lays the variable. In a bare row this is a premise. The card (YtbbjeifbcijkcaaDoorCards.lean) ties it to the program's text. -/
def laid_vizard_varint_sizes {H : Type} : DataW H := .agg [.lit (.int .i64 1), .lit (.int .i64 2), .lit (.int .i64 4), .lit (.int .i64 8)]

/-- 'vizardlaw01.VarintGets': WHATEVER THE INPUT: true; the input reads as it did. -/
def varintGetsSpec : ChangeSpec := { name := "varintGets", fn := fun _ => fun
  | [d] => { results := [.lit (.bool true)], args := [d] }
  | _ => none }
def varintGetsRow : OpenClaim := { program := "ytbbjeifbcijkcaadoor", sum := "45290ad09919737b3a51a2dafe850df20fcda999c49dd575fe161d80fcf8f8a5", func := "vizard/vizardlaw01.VarintGets", spec := "varintGets", named := ["vizard/varint.sizes"], apart := false, laid := [("vizard/varint.sizes", laid_vizard_varint_sizes)] }
def VarintGetsSaid : Prop := varintGetsRow.holds Tryd.pinned (OpenSpec.ofChange varintGetsSpec)

/-- ITS FALSE NEIGHBOUR: 'it returns false'. Refute it at one input. -/
def varintGetsWrong : ChangeSpec := { name := "varintGets", fn := fun _ => fun
  | [d] => { results := [.lit (.bool false)], args := [d] }
  | _ => none }
def VarintGetsWrongFalsely : Prop := varintGetsRow.holds Tryd.pinned (OpenSpec.ofChange varintGetsWrong)

/-- 'vizardlaw01.VarintPuts': WHATEVER THE INPUT: true; the input reads as it did. -/
def varintPutsSpec : ChangeSpec := { name := "varintPuts", fn := fun _ => fun
  | [d] => { results := [.lit (.bool true)], args := [d] }
  | _ => none }
def varintPutsRow : OpenClaim := { program := "ytbbjeifbcijkcaadoor", sum := "45290ad09919737b3a51a2dafe850df20fcda999c49dd575fe161d80fcf8f8a5", func := "vizard/vizardlaw01.VarintPuts", spec := "varintPuts", recurses := true, named := ["vizard/varint.sizes"], apart := false, laid := [("vizard/varint.sizes", laid_vizard_varint_sizes)] }
def VarintPutsSaid : Prop := varintPutsRow.holds Tryd.pinned (OpenSpec.ofChange varintPutsSpec)

/-- ITS FALSE NEIGHBOUR: 'it returns false'. Refute it at one input. -/
def varintPutsWrong : ChangeSpec := { name := "varintPuts", fn := fun _ => fun
  | [d] => { results := [.lit (.bool false)], args := [d] }
  | _ => none }
def VarintPutsWrongFalsely : Prop := varintPutsRow.holds Tryd.pinned (OpenSpec.ofChange varintPutsWrong)

/-- 'vizardlaw01.VarintOrder': WHATEVER THE INPUT: true; the input reads as it did. -/
def varintOrderSpec : ChangeSpec := { name := "varintOrder", fn := fun _ => fun
  | [d1, d2] => { results := [.lit (.bool true)], args := [d1, d2] }
  | _ => none }
def varintOrderRow : OpenClaim := { program := "ytbbjeifbcijkcaadoor", sum := "45290ad09919737b3a51a2dafe850df20fcda999c49dd575fe161d80fcf8f8a5", func := "vizard/vizardlaw01.VarintOrder", spec := "varintOrder", named := ["vizard/varint.sizes"], apart := false, laid := [("vizard/varint.sizes", laid_vizard_varint_sizes)] }
def VarintOrderSaid : Prop := varintOrderRow.holds Tryd.pinned (OpenSpec.ofChange varintOrderSpec)

/-- ITS FALSE NEIGHBOUR: 'it returns false'. Refute it at one input. -/
def varintOrderWrong : ChangeSpec := { name := "varintOrder", fn := fun _ => fun
  | [d1, d2] => { results := [.lit (.bool false)], args := [d1, d2] }
  | _ => none }
def VarintOrderWrongFalsely : Prop := varintOrderRow.holds Tryd.pinned (OpenSpec.ofChange varintOrderWrong)

/-- 'vizardlaw01.VarintLonger': WHATEVER THE INPUT: true; the input reads as it did. -/
def varintLongerSpec : ChangeSpec := { name := "varintLonger", fn := fun _ => fun
  | [d1, d2] => { results := [.lit (.bool true)], args := [d1, d2] }
  | _ => none }
def varintLongerRow : OpenClaim := { program := "ytbbjeifbcijkcaadoor", sum := "45290ad09919737b3a51a2dafe850df20fcda999c49dd575fe161d80fcf8f8a5", func := "vizard/vizardlaw01.VarintLonger", spec := "varintLonger", recurses := true, named := ["vizard/varint.sizes"], apart := false, laid := [("vizard/varint.sizes", laid_vizard_varint_sizes)] }
def VarintLongerSaid : Prop := varintLongerRow.holds Tryd.pinned (OpenSpec.ofChange varintLongerSpec)

/-- ITS FALSE NEIGHBOUR: 'it returns false'. Refute it at one input. -/
def varintLongerWrong : ChangeSpec := { name := "varintLonger", fn := fun _ => fun
  | [d1, d2] => { results := [.lit (.bool false)], args := [d1, d2] }
  | _ => none }
def VarintLongerWrongFalsely : Prop := varintLongerRow.holds Tryd.pinned (OpenSpec.ofChange varintLongerWrong)

/-- 'vizardlaw01.VarintBack': WHATEVER THE INPUT: true; the input reads as it did. -/
def varintBackSpec : ChangeSpec := { name := "varintBack", fn := fun _ => fun
  | [d1, d2, d3, d4] => { results := [.lit (.bool true)], args := [d1, d2, d3, d4] }
  | _ => none }
def varintBackRow : OpenClaim := { program := "ytbbjeifbcijkcaadoor", sum := "45290ad09919737b3a51a2dafe850df20fcda999c49dd575fe161d80fcf8f8a5", func := "vizard/vizardlaw01.VarintBack", spec := "varintBack", named := ["vizard/varint.sizes"], apart := false, laid := [("vizard/varint.sizes", laid_vizard_varint_sizes)] }
def VarintBackSaid : Prop := varintBackRow.holds Tryd.pinned (OpenSpec.ofChange varintBackSpec)

/-- ITS FALSE NEIGHBOUR: 'it returns false'. Refute it at one input. -/
def varintBackWrong : ChangeSpec := { name := "varintBack", fn := fun _ => fun
  | [d1, d2, d3, d4] => { results := [.lit (.bool false)], args := [d1, d2, d3, d4] }
  | _ => none }
def VarintBackWrongFalsely : Prop := varintBackRow.holds Tryd.pinned (OpenSpec.ofChange varintBackWrong)

/-- 'vizardlaw01.VarintTexts': WHATEVER THE INPUT: true; the input reads as it did. -/
def varintTextsSpec : ChangeSpec := { name := "varintTexts", fn := fun _ => fun
  | [d] => { results := [.lit (.bool true)], args := [d] }
  | _ => none }
def varintTextsRow : OpenClaim := { program := "ytbbjeifbcijkcaadoor", sum := "45290ad09919737b3a51a2dafe850df20fcda999c49dd575fe161d80fcf8f8a5", func := "vizard/vizardlaw01.VarintTexts", spec := "varintTexts", named := ["vizard/varint.sizes"], apart := false, laid := [("vizard/varint.sizes", laid_vizard_varint_sizes)] }
def VarintTextsSaid : Prop := varintTextsRow.holds Tryd.pinned (OpenSpec.ofChange varintTextsSpec)

/-- ITS FALSE NEIGHBOUR: 'it returns false'. Refute it at one input. -/
def varintTextsWrong : ChangeSpec := { name := "varintTexts", fn := fun _ => fun
  | [d] => { results := [.lit (.bool false)], args := [d] }
  | _ => none }
def VarintTextsWrongFalsely : Prop := varintTextsRow.holds Tryd.pinned (OpenSpec.ofChange varintTextsWrong)

/- THE SECOND FORM. 'bulk': how many values and letters a reading holds, each counted each time it is reached (what is shared counts as often as it is met; a slice's spare places count too). A statement '..UptoSaid' is the law's where the arguments, and the package variables that the reading takes, are together of bulk at most 1048576: NARROWER than '..Said'. Prove '..Said' where nothing that the law and all that it calls make is longer than what came in: it says more and counts as full. Else prove '..UptoSaid'. A law counts once. -/
mutual
def uptoBulk {H : Type} : DataW H → Nat
  | .lit (.string bytes) => bytes.length + 1
  | .lit _ => 1
  | .nil => 1
  | .ptr d => uptoBulk d + 1
  | .slice elems spare => uptoBulkAll elems + uptoBulkAll spare + 1
  | .agg parts => uptoBulkAll parts + 1
  | .iface _ d => uptoBulk d + 1
  | .map entries => uptoBulkEntries entries + 1
  | .held _ => 1
def uptoBulkAll {H : Type} : List (DataW H) → Nat
  | [] => 0
  | d :: r => uptoBulk d + uptoBulkAll r
def uptoBulkEntries {H : Type} : List (Lit × DataW H) → Nat
  | [] => 0
  | x :: r => uptoBulkEntry x + uptoBulkEntries r
def uptoBulkEntry {H : Type} : Lit × DataW H → Nat
  | (.string bytes, d) => bytes.length + uptoBulk d + 1
  | (_, d) => uptoBulk d + 1
 end
def uptoSmall : (H : Type) → List (DataW H) → Bool := fun _ ds => decide (uptoBulkAll ds ≤ 1048576)
def OpenSpec.upto (s : _root_.Go.ChangeSpec) : _root_.Go.OpenSpec := { _root_.Go.OpenSpec.ofChange s with cond := some uptoSmall }

/-- 'vizardlaw01.VarintGets', WHERE WHAT IT READS IS OF BULK AT MOST 1048576: true; the input reads as it did. -/
def varintGetsUptoRow : OpenClaim := { program := "ytbbjeifbcijkcaadoor", sum := "45290ad09919737b3a51a2dafe850df20fcda999c49dd575fe161d80fcf8f8a5", func := "vizard/vizardlaw01.VarintGets", spec := "varintGets", named := ["vizard/varint.sizes"], apart := false, laid := [("vizard/varint.sizes", laid_vizard_varint_sizes)], narrowed := true }
def VarintGetsUptoSaid : Prop := varintGetsUptoRow.holds Tryd.pinned (OpenSpec.upto varintGetsSpec)

/-- 'vizardlaw01.VarintPuts', WHERE WHAT IT READS IS OF BULK AT MOST 1048576: true; the input reads as it did. -/
def varintPutsUptoRow : OpenClaim := { program := "ytbbjeifbcijkcaadoor", sum := "45290ad09919737b3a51a2dafe850df20fcda999c49dd575fe161d80fcf8f8a5", func := "vizard/vizardlaw01.VarintPuts", spec := "varintPuts", recurses := true, named := ["vizard/varint.sizes"], apart := false, laid := [("vizard/varint.sizes", laid_vizard_varint_sizes)], narrowed := true }
def VarintPutsUptoSaid : Prop := varintPutsUptoRow.holds Tryd.pinned (OpenSpec.upto varintPutsSpec)

/-- 'vizardlaw01.VarintOrder', WHERE WHAT IT READS IS OF BULK AT MOST 1048576: true; the input reads as it did. -/
def varintOrderUptoRow : OpenClaim := { program := "ytbbjeifbcijkcaadoor", sum := "45290ad09919737b3a51a2dafe850df20fcda999c49dd575fe161d80fcf8f8a5", func := "vizard/vizardlaw01.VarintOrder", spec := "varintOrder", named := ["vizard/varint.sizes"], apart := false, laid := [("vizard/varint.sizes", laid_vizard_varint_sizes)], narrowed := true }
def VarintOrderUptoSaid : Prop := varintOrderUptoRow.holds Tryd.pinned (OpenSpec.upto varintOrderSpec)

/-- 'vizardlaw01.VarintLonger', WHERE WHAT IT READS IS OF BULK AT MOST 1048576: true; the input reads as it did. -/
def varintLongerUptoRow : OpenClaim := { program := "ytbbjeifbcijkcaadoor", sum := "45290ad09919737b3a51a2dafe850df20fcda999c49dd575fe161d80fcf8f8a5", func := "vizard/vizardlaw01.VarintLonger", spec := "varintLonger", recurses := true, named := ["vizard/varint.sizes"], apart := false, laid := [("vizard/varint.sizes", laid_vizard_varint_sizes)], narrowed := true }
def VarintLongerUptoSaid : Prop := varintLongerUptoRow.holds Tryd.pinned (OpenSpec.upto varintLongerSpec)

/-- 'vizardlaw01.VarintBack', WHERE WHAT IT READS IS OF BULK AT MOST 1048576: true; the input reads as it did. -/
def varintBackUptoRow : OpenClaim := { program := "ytbbjeifbcijkcaadoor", sum := "45290ad09919737b3a51a2dafe850df20fcda999c49dd575fe161d80fcf8f8a5", func := "vizard/vizardlaw01.VarintBack", spec := "varintBack", named := ["vizard/varint.sizes"], apart := false, laid := [("vizard/varint.sizes", laid_vizard_varint_sizes)], narrowed := true }
def VarintBackUptoSaid : Prop := varintBackUptoRow.holds Tryd.pinned (OpenSpec.upto varintBackSpec)

/-- 'vizardlaw01.VarintTexts', WHERE WHAT IT READS IS OF BULK AT MOST 1048576: true; the input reads as it did. -/
def varintTextsUptoRow : OpenClaim := { program := "ytbbjeifbcijkcaadoor", sum := "45290ad09919737b3a51a2dafe850df20fcda999c49dd575fe161d80fcf8f8a5", func := "vizard/vizardlaw01.VarintTexts", spec := "varintTexts", named := ["vizard/varint.sizes"], apart := false, laid := [("vizard/varint.sizes", laid_vizard_varint_sizes)], narrowed := true }
def VarintTextsUptoSaid : Prop := varintTextsUptoRow.holds Tryd.pinned (OpenSpec.upto varintTextsSpec)

end Rows
end Go.Proofs.YtbbjeifbcijkcaaDoor
