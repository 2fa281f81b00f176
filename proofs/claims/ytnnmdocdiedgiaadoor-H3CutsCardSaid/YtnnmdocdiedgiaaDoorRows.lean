/-
  NARROWER THAN 'FOR EVERY INPUT', by the rows' own cells (each row's printed sentence says how): H3Writes: laid · H3Cuts: laid · H3Back: laid · H3Strange: laid · H3Faults: laid.
  DERIVED. THE GIVEN ROWS OF THIS SEAT. 5 by the template 'for every input the law returns true; each argument reads behind the call as it read before'; 0 by the template 'total and deterministic' (their statements: YtnnmdocdiedgiaaDoorTotals.lean).
  GIVEN WITH THE SEED: the statements are not yours to turn. If you find one false, say at which input.
  Laid BY PROGRAM, IN A SANDBOX (cutbox-rows.mjs): the forced cells as the released guide's own fill.sh prints them over the translation 7ea5ee5b5171d87f… (all of the seat's roots in one cut). By AI agents, Wed Nov 11 2026. No macro, syntax, notation, axiom, sorry.
-/
import Derived.Test.YtnnmdocdiedgiaaDoorChecked
import GoSem.Claim
import GoSem.ClaimJoined
import GoSem.ClaimMapViews
import Derived.JoinedTies
import Derived.KernelRfl
namespace Go.Proofs.YtnnmdocdiedgiaaDoor
/- THE CELL 'sum', in the pinned program and in every row, IS THE sha256 OF THE DUMP (.gsa) THAT YtnnmdocdiedgiaaDoorProg.lean LOADS. Nothing in Lean hashes anything: it is a label: what it is worth is what the hold of that sum in a sandbox is worth. -/
noncomputable def Tryd.pinned : Pinned := { name := "ytnnmdocdiedgiaadoor", sum := "7ea5ee5b5171d87f81a76c6cde09e3caa5b7d59cc454b10c550b068de5a059bb", checked := Tryd.checked }
namespace Rows
def none {H : Type} : Left H := { results := [], args := [] }

/- WHAT THE LISTED PACKAGE-LEVEL VARIABLES READ AS WHEN THE CALL BEGINS. Each datum BY PROGRAM (the guide's laid-datum.mjs) off the statement by which the dump's own 'gosem.cut.vars' lays the variable. In a bare row this is a premise. The card (YtnnmdocdiedgiaaDoorCards.lean) ties it to the program's text. -/
def laid_vizard_varint_sizes {H : Type} : DataW H := .agg [.lit (.int .i64 1), .lit (.int .i64 2), .lit (.int .i64 4), .lit (.int .i64 8)]

/-- 'vizardlaw15.H3Writes': WHATEVER THE INPUT: true; the input reads as it did. -/
def h3WritesSpec : ChangeSpec := { name := "h3Writes", fn := fun _ => fun
  | [d1, d2] => { results := [.lit (.bool true)], args := [d1, d2] }
  | _ => none }
def h3WritesRow : OpenClaim := { program := "ytnnmdocdiedgiaadoor", sum := "7ea5ee5b5171d87f81a76c6cde09e3caa5b7d59cc454b10c550b068de5a059bb", func := "vizard/vizardlaw15.H3Writes", spec := "h3Writes", unfollowed := true, recurses := true, named := ["vizard/varint.sizes"], apart := false, laid := [("vizard/varint.sizes", laid_vizard_varint_sizes)] }
def H3WritesSaid : Prop := h3WritesRow.holds Tryd.pinned (OpenSpec.ofChange h3WritesSpec)

/-- ITS FALSE NEIGHBOUR: 'it returns false'. Refute it at one input. -/
def h3WritesWrong : ChangeSpec := { name := "h3Writes", fn := fun _ => fun
  | [d1, d2] => { results := [.lit (.bool false)], args := [d1, d2] }
  | _ => none }
def H3WritesWrongFalsely : Prop := h3WritesRow.holds Tryd.pinned (OpenSpec.ofChange h3WritesWrong)

/-- 'vizardlaw15.H3Cuts': WHATEVER THE INPUT: true; the input reads as it did. -/
def h3CutsSpec : ChangeSpec := { name := "h3Cuts", fn := fun _ => fun
  | [d1, d2, d3] => { results := [.lit (.bool true)], args := [d1, d2, d3] }
  | _ => none }
def h3CutsRow : OpenClaim := { program := "ytnnmdocdiedgiaadoor", sum := "7ea5ee5b5171d87f81a76c6cde09e3caa5b7d59cc454b10c550b068de5a059bb", func := "vizard/vizardlaw15.H3Cuts", spec := "h3Cuts", unfollowed := true, recurses := true, named := ["vizard/varint.sizes"], apart := false, laid := [("vizard/varint.sizes", laid_vizard_varint_sizes)] }
def H3CutsSaid : Prop := h3CutsRow.holds Tryd.pinned (OpenSpec.ofChange h3CutsSpec)

/-- ITS FALSE NEIGHBOUR: 'it returns false'. Refute it at one input. -/
def h3CutsWrong : ChangeSpec := { name := "h3Cuts", fn := fun _ => fun
  | [d1, d2, d3] => { results := [.lit (.bool false)], args := [d1, d2, d3] }
  | _ => none }
def H3CutsWrongFalsely : Prop := h3CutsRow.holds Tryd.pinned (OpenSpec.ofChange h3CutsWrong)

/-- 'vizardlaw15.H3Back': WHATEVER THE INPUT: true; the input reads as it did. -/
def h3BackSpec : ChangeSpec := { name := "h3Back", fn := fun _ => fun
  | [d1, d2, d3] => { results := [.lit (.bool true)], args := [d1, d2, d3] }
  | _ => none }
def h3BackRow : OpenClaim := { program := "ytnnmdocdiedgiaadoor", sum := "7ea5ee5b5171d87f81a76c6cde09e3caa5b7d59cc454b10c550b068de5a059bb", func := "vizard/vizardlaw15.H3Back", spec := "h3Back", unfollowed := true, recurses := true, named := ["vizard/varint.sizes"], apart := false, laid := [("vizard/varint.sizes", laid_vizard_varint_sizes)] }
def H3BackSaid : Prop := h3BackRow.holds Tryd.pinned (OpenSpec.ofChange h3BackSpec)

/-- ITS FALSE NEIGHBOUR: 'it returns false'. Refute it at one input. -/
def h3BackWrong : ChangeSpec := { name := "h3Back", fn := fun _ => fun
  | [d1, d2, d3] => { results := [.lit (.bool false)], args := [d1, d2, d3] }
  | _ => none }
def H3BackWrongFalsely : Prop := h3BackRow.holds Tryd.pinned (OpenSpec.ofChange h3BackWrong)

/-- 'vizardlaw15.H3Strange': WHATEVER THE INPUT: true; the input reads as it did. -/
def h3StrangeSpec : ChangeSpec := { name := "h3Strange", fn := fun _ => fun
  | [d1, d2, d3] => { results := [.lit (.bool true)], args := [d1, d2, d3] }
  | _ => none }
def h3StrangeRow : OpenClaim := { program := "ytnnmdocdiedgiaadoor", sum := "7ea5ee5b5171d87f81a76c6cde09e3caa5b7d59cc454b10c550b068de5a059bb", func := "vizard/vizardlaw15.H3Strange", spec := "h3Strange", unfollowed := true, recurses := true, named := ["vizard/varint.sizes"], apart := false, laid := [("vizard/varint.sizes", laid_vizard_varint_sizes)] }
def H3StrangeSaid : Prop := h3StrangeRow.holds Tryd.pinned (OpenSpec.ofChange h3StrangeSpec)

/-- ITS FALSE NEIGHBOUR: 'it returns false'. Refute it at one input. -/
def h3StrangeWrong : ChangeSpec := { name := "h3Strange", fn := fun _ => fun
  | [d1, d2, d3] => { results := [.lit (.bool false)], args := [d1, d2, d3] }
  | _ => none }
def H3StrangeWrongFalsely : Prop := h3StrangeRow.holds Tryd.pinned (OpenSpec.ofChange h3StrangeWrong)

/-- 'vizardlaw15.H3Faults': WHATEVER THE INPUT: true; the input reads as it did. -/
def h3FaultsSpec : ChangeSpec := { name := "h3Faults", fn := fun _ => fun
  | [d1, d2, d3] => { results := [.lit (.bool true)], args := [d1, d2, d3] }
  | _ => none }
def h3FaultsRow : OpenClaim := { program := "ytnnmdocdiedgiaadoor", sum := "7ea5ee5b5171d87f81a76c6cde09e3caa5b7d59cc454b10c550b068de5a059bb", func := "vizard/vizardlaw15.H3Faults", spec := "h3Faults", unfollowed := true, recurses := true, named := ["vizard/varint.sizes"], apart := false, laid := [("vizard/varint.sizes", laid_vizard_varint_sizes)] }
def H3FaultsSaid : Prop := h3FaultsRow.holds Tryd.pinned (OpenSpec.ofChange h3FaultsSpec)

/-- ITS FALSE NEIGHBOUR: 'it returns false'. Refute it at one input. -/
def h3FaultsWrong : ChangeSpec := { name := "h3Faults", fn := fun _ => fun
  | [d1, d2, d3] => { results := [.lit (.bool false)], args := [d1, d2, d3] }
  | _ => none }
def H3FaultsWrongFalsely : Prop := h3FaultsRow.holds Tryd.pinned (OpenSpec.ofChange h3FaultsWrong)

/- THE SECOND FORM. 'bulk': how many values and letters a reading holds, each counted each time it is reached (what is shared counts as often as it is met; a slice's spare places count too). A statement '..UptoSaid' is the law's where the arguments, and the package variables that the reading takes, are together of bulk at most 1048576: NARROWER than '..Said'. Prove '..Said' where nothing that the law and all that it calls make is longer than what came in: it says more and counts as full. Else prove '..UptoSaid'. A law counts once. -/
mutual
def uptoBulk {H : Type} : DataW H → Nat
  | .lit (.string bytes) => bytes.length + 1
  | .lit _ => 1
  | .nil => 1
  | .ptr d => uptoBulk d + 1
  | .slice elems spare => uptoBulkAll elems + uptoBulkAll spare + 1
  | .agg parts => uptoBulkAll parts + 1
  | .iface _ d => uptoBulk d + 1
  | .map entries => uptoBulkEntries entries + 1
  | .held _ => 1
def uptoBulkAll {H : Type} : List (DataW H) → Nat
  | [] => 0
  | d :: r => uptoBulk d + uptoBulkAll r
def uptoBulkEntries {H : Type} : List (Lit × DataW H) → Nat
  | [] => 0
  | x :: r => uptoBulkEntry x + uptoBulkEntries r
def uptoBulkEntry {H : Type} : Lit × DataW H → Nat
  | (.string bytes, d) => bytes.length + uptoBulk d + 1
  | (_, d) => uptoBulk d + 1
 end
def uptoSmall : (H : Type) → List (DataW H) → Bool := fun _ ds => decide (uptoBulkAll ds ≤ 1048576)
def OpenSpec.upto (s : _root_.Go.ChangeSpec) : _root_.Go.OpenSpec := { _root_.Go.OpenSpec.ofChange s with cond := some uptoSmall }

/-- 'vizardlaw15.H3Writes', WHERE WHAT IT READS IS OF BULK AT MOST 1048576: true; the input reads as it did. -/
def h3WritesUptoRow : OpenClaim := { program := "ytnnmdocdiedgiaadoor", sum := "7ea5ee5b5171d87f81a76c6cde09e3caa5b7d59cc454b10c550b068de5a059bb", func := "vizard/vizardlaw15.H3Writes", spec := "h3Writes", unfollowed := true, recurses := true, named := ["vizard/varint.sizes"], apart := false, laid := [("vizard/varint.sizes", laid_vizard_varint_sizes)], narrowed := true }
def H3WritesUptoSaid : Prop := h3WritesUptoRow.holds Tryd.pinned (OpenSpec.upto h3WritesSpec)

/-- 'vizardlaw15.H3Cuts', WHERE WHAT IT READS IS OF BULK AT MOST 1048576: true; the input reads as it did. -/
def h3CutsUptoRow : OpenClaim := { program := "ytnnmdocdiedgiaadoor", sum := "7ea5ee5b5171d87f81a76c6cde09e3caa5b7d59cc454b10c550b068de5a059bb", func := "vizard/vizardlaw15.H3Cuts", spec := "h3Cuts", unfollowed := true, recurses := true, named := ["vizard/varint.sizes"], apart := false, laid := [("vizard/varint.sizes", laid_vizard_varint_sizes)], narrowed := true }
def H3CutsUptoSaid : Prop := h3CutsUptoRow.holds Tryd.pinned (OpenSpec.upto h3CutsSpec)

/-- 'vizardlaw15.H3Back', WHERE WHAT IT READS IS OF BULK AT MOST 1048576: true; the input reads as it did. -/
def h3BackUptoRow : OpenClaim := { program := "ytnnmdocdiedgiaadoor", sum := "7ea5ee5b5171d87f81a76c6cde09e3caa5b7d59cc454b10c550b068de5a059bb", func := "vizard/vizardlaw15.H3Back", spec := "h3Back", unfollowed := true, recurses := true, named := ["vizard/varint.sizes"], apart := false, laid := [("vizard/varint.sizes", laid_vizard_varint_sizes)], narrowed := true }
def H3BackUptoSaid : Prop := h3BackUptoRow.holds Tryd.pinned (OpenSpec.upto h3BackSpec)

/-- 'vizardlaw15.H3Strange', WHERE WHAT IT READS IS OF BULK AT MOST 1048576: true; the input reads as it did. -/
def h3StrangeUptoRow : OpenClaim := { program := "ytnnmdocdiedgiaadoor", sum := "7ea5ee5b5171d87f81a76c6cde09e3caa5b7d59cc454b10c550b068de5a059bb", func := "vizard/vizardlaw15.H3Strange", spec := "h3Strange", unfollowed := true, recurses := true, named := ["vizard/varint.sizes"], apart := false, laid := [("vizard/varint.sizes", laid_vizard_varint_sizes)], narrowed := true }
def H3StrangeUptoSaid : Prop := h3StrangeUptoRow.holds Tryd.pinned (OpenSpec.upto h3StrangeSpec)

/-- 'vizardlaw15.H3Faults', WHERE WHAT IT READS IS OF BULK AT MOST 1048576: true; the input reads as it did. -/
def h3FaultsUptoRow : OpenClaim := { program := "ytnnmdocdiedgiaadoor", sum := "7ea5ee5b5171d87f81a76c6cde09e3caa5b7d59cc454b10c550b068de5a059bb", func := "vizard/vizardlaw15.H3Faults", spec := "h3Faults", unfollowed := true, recurses := true, named := ["vizard/varint.sizes"], apart := false, laid := [("vizard/varint.sizes", laid_vizard_varint_sizes)], narrowed := true }
def H3FaultsUptoSaid : Prop := h3FaultsUptoRow.holds Tryd.pinned (OpenSpec.upto h3FaultsSpec)

end Rows
end Go.Proofs.YtnnmdocdiedgiaaDoor
