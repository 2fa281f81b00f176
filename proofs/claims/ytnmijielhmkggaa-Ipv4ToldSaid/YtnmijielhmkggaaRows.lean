/-
  No cell of these rows narrows 'for every input' (looked for: loops, veiled, ifaces, maps, wideKeys, modest, calm, conditions, laid).
  DERIVED. THE GIVEN ROWS OF THIS SEAT. 7 by the template 'for every input the law returns true; each argument reads behind the call as it read before'; 0 by the template 'total and deterministic' (their statements: YtnmijielhmkggaaTotals.lean).
  GIVEN WITH THE SEED: the statements are not yours to turn. If you find one false, say at which input.
  Laid BY PROGRAM, IN A SANDBOX (cutbox-rows.mjs): the forced cells as the released guide's own fill.sh prints them over the translation beb6a6589a6903d6… (all of the seat's roots in one cut). By AI agents, Wed Nov 11 2026. No macro, syntax, notation, axiom, sorry.
-/
import Derived.Test.YtnmijielhmkggaaChecked
import GoSem.Claim
import GoSem.ClaimJoined
import GoSem.ClaimMapViews
import Derived.JoinedTies
import Derived.KernelRfl
namespace Go.Proofs.Ytnmijielhmkggaa
/- THE CELL 'sum', in the pinned program and in every row, IS THE sha256 OF THE DUMP (.gsa) THAT YtnmijielhmkggaaProg.lean LOADS. Nothing in Lean hashes anything: it is a label: what it is worth is what the hold of that sum in a sandbox is worth. -/
noncomputable def Try.pinned : Pinned := { name := "ytnmijielhmkggaa", sum := "beb6a6589a6903d6b8b88e8c841dd19510950473ca162d29498aa8e91422a81b", checked := Try.checked }
namespace Rows
def none {H : Type} : Left H := { results := [], args := [] }

/-- 'vizardlaw02.Ipv4Builds': WHATEVER THE INPUT: true; the input reads as it did. -/
def ipv4BuildsSpec : ChangeSpec := { name := "ipv4Builds", fn := fun _ => fun
  | [d1, d2] => { results := [.lit (.bool true)], args := [d1, d2] }
  | _ => none }
def ipv4BuildsRow : OpenClaim := { program := "ytnmijielhmkggaa", sum := "beb6a6589a6903d6b8b88e8c841dd19510950473ca162d29498aa8e91422a81b", func := "vizard/vizardlaw02.Ipv4Builds", spec := "ipv4Builds", recurses := true, apart := false }
def Ipv4BuildsSaid : Prop := ipv4BuildsRow.holds Try.pinned (OpenSpec.ofChange ipv4BuildsSpec)

/-- ITS FALSE NEIGHBOUR: 'it returns false'. Refute it at one input. -/
def ipv4BuildsWrong : ChangeSpec := { name := "ipv4Builds", fn := fun _ => fun
  | [d1, d2] => { results := [.lit (.bool false)], args := [d1, d2] }
  | _ => none }
def Ipv4BuildsWrongFalsely : Prop := ipv4BuildsRow.holds Try.pinned (OpenSpec.ofChange ipv4BuildsWrong)

/-- 'vizardlaw02.Ipv4Back': WHATEVER THE INPUT: true; the input reads as it did. -/
def ipv4BackSpec : ChangeSpec := { name := "ipv4Back", fn := fun _ => fun
  | [d1, d2] => { results := [.lit (.bool true)], args := [d1, d2] }
  | _ => none }
def ipv4BackRow : OpenClaim := { program := "ytnmijielhmkggaa", sum := "beb6a6589a6903d6b8b88e8c841dd19510950473ca162d29498aa8e91422a81b", func := "vizard/vizardlaw02.Ipv4Back", spec := "ipv4Back", apart := false }
def Ipv4BackSaid : Prop := ipv4BackRow.holds Try.pinned (OpenSpec.ofChange ipv4BackSpec)

/-- ITS FALSE NEIGHBOUR: 'it returns false'. Refute it at one input. -/
def ipv4BackWrong : ChangeSpec := { name := "ipv4Back", fn := fun _ => fun
  | [d1, d2] => { results := [.lit (.bool false)], args := [d1, d2] }
  | _ => none }
def Ipv4BackWrongFalsely : Prop := ipv4BackRow.holds Try.pinned (OpenSpec.ofChange ipv4BackWrong)

/-- 'vizardlaw02.Ipv4Told': WHATEVER THE INPUT: true; the input reads as it did. -/
def ipv4ToldSpec : ChangeSpec := { name := "ipv4Told", fn := fun _ => fun
  | [d1, d2, d3] => { results := [.lit (.bool true)], args := [d1, d2, d3] }
  | _ => none }
def ipv4ToldRow : OpenClaim := { program := "ytnmijielhmkggaa", sum := "beb6a6589a6903d6b8b88e8c841dd19510950473ca162d29498aa8e91422a81b", func := "vizard/vizardlaw02.Ipv4Told", spec := "ipv4Told", apart := false }
def Ipv4ToldSaid : Prop := ipv4ToldRow.holds Try.pinned (OpenSpec.ofChange ipv4ToldSpec)

/-- ITS FALSE NEIGHBOUR: 'it returns false'. Refute it at one input. -/
def ipv4ToldWrong : ChangeSpec := { name := "ipv4Told", fn := fun _ => fun
  | [d1, d2, d3] => { results := [.lit (.bool false)], args := [d1, d2, d3] }
  | _ => none }
def Ipv4ToldWrongFalsely : Prop := ipv4ToldRow.holds Try.pinned (OpenSpec.ofChange ipv4ToldWrong)

/-- 'vizardlaw02.Ipv4Sums': WHATEVER THE INPUT: true; the input reads as it did. -/
def ipv4SumsSpec : ChangeSpec := { name := "ipv4Sums", fn := fun _ => fun
  | [d1, d2, d3] => { results := [.lit (.bool true)], args := [d1, d2, d3] }
  | _ => none }
def ipv4SumsRow : OpenClaim := { program := "ytnmijielhmkggaa", sum := "beb6a6589a6903d6b8b88e8c841dd19510950473ca162d29498aa8e91422a81b", func := "vizard/vizardlaw02.Ipv4Sums", spec := "ipv4Sums", apart := false }
def Ipv4SumsSaid : Prop := ipv4SumsRow.holds Try.pinned (OpenSpec.ofChange ipv4SumsSpec)

/-- ITS FALSE NEIGHBOUR: 'it returns false'. Refute it at one input. -/
def ipv4SumsWrong : ChangeSpec := { name := "ipv4Sums", fn := fun _ => fun
  | [d1, d2, d3] => { results := [.lit (.bool false)], args := [d1, d2, d3] }
  | _ => none }
def Ipv4SumsWrongFalsely : Prop := ipv4SumsRow.holds Try.pinned (OpenSpec.ofChange ipv4SumsWrong)

/-- 'vizardlaw02.Ipv4Cuts': WHATEVER THE INPUT: true; the input reads as it did. -/
def ipv4CutsSpec : ChangeSpec := { name := "ipv4Cuts", fn := fun _ => fun
  | [d1, d2, d3] => { results := [.lit (.bool true)], args := [d1, d2, d3] }
  | _ => none }
def ipv4CutsRow : OpenClaim := { program := "ytnmijielhmkggaa", sum := "beb6a6589a6903d6b8b88e8c841dd19510950473ca162d29498aa8e91422a81b", func := "vizard/vizardlaw02.Ipv4Cuts", spec := "ipv4Cuts", apart := false }
def Ipv4CutsSaid : Prop := ipv4CutsRow.holds Try.pinned (OpenSpec.ofChange ipv4CutsSpec)

/-- ITS FALSE NEIGHBOUR: 'it returns false'. Refute it at one input. -/
def ipv4CutsWrong : ChangeSpec := { name := "ipv4Cuts", fn := fun _ => fun
  | [d1, d2, d3] => { results := [.lit (.bool false)], args := [d1, d2, d3] }
  | _ => none }
def Ipv4CutsWrongFalsely : Prop := ipv4CutsRow.holds Try.pinned (OpenSpec.ofChange ipv4CutsWrong)

/-- 'vizardlaw02.Ipv4Parses': WHATEVER THE INPUT: true; the input reads as it did. -/
def ipv4ParsesSpec : ChangeSpec := { name := "ipv4Parses", fn := fun _ => fun
  | [d] => { results := [.lit (.bool true)], args := [d] }
  | _ => none }
def ipv4ParsesRow : OpenClaim := { program := "ytnmijielhmkggaa", sum := "beb6a6589a6903d6b8b88e8c841dd19510950473ca162d29498aa8e91422a81b", func := "vizard/vizardlaw02.Ipv4Parses", spec := "ipv4Parses", recurses := true, apart := false }
def Ipv4ParsesSaid : Prop := ipv4ParsesRow.holds Try.pinned (OpenSpec.ofChange ipv4ParsesSpec)

/-- ITS FALSE NEIGHBOUR: 'it returns false'. Refute it at one input. -/
def ipv4ParsesWrong : ChangeSpec := { name := "ipv4Parses", fn := fun _ => fun
  | [d] => { results := [.lit (.bool false)], args := [d] }
  | _ => none }
def Ipv4ParsesWrongFalsely : Prop := ipv4ParsesRow.holds Try.pinned (OpenSpec.ofChange ipv4ParsesWrong)

/-- 'vizardlaw02.Ipv4Hops': WHATEVER THE INPUT: true; the input reads as it did. -/
def ipv4HopsSpec : ChangeSpec := { name := "ipv4Hops", fn := fun _ => fun
  | [d] => { results := [.lit (.bool true)], args := [d] }
  | _ => none }
def ipv4HopsRow : OpenClaim := { program := "ytnmijielhmkggaa", sum := "beb6a6589a6903d6b8b88e8c841dd19510950473ca162d29498aa8e91422a81b", func := "vizard/vizardlaw02.Ipv4Hops", spec := "ipv4Hops", apart := false }
def Ipv4HopsSaid : Prop := ipv4HopsRow.holds Try.pinned (OpenSpec.ofChange ipv4HopsSpec)

/-- ITS FALSE NEIGHBOUR: 'it returns false'. Refute it at one input. -/
def ipv4HopsWrong : ChangeSpec := { name := "ipv4Hops", fn := fun _ => fun
  | [d] => { results := [.lit (.bool false)], args := [d] }
  | _ => none }
def Ipv4HopsWrongFalsely : Prop := ipv4HopsRow.holds Try.pinned (OpenSpec.ofChange ipv4HopsWrong)

/- THE SECOND FORM. 'bulk': how many values and letters a reading holds, each counted each time it is reached (what is shared counts as often as it is met; a slice's spare places count too). A statement '..UptoSaid' is the law's where the arguments, and the package variables that the reading takes, are together of bulk at most 1048576: NARROWER than '..Said'. Prove '..Said' where nothing that the law and all that it calls make is longer than what came in: it says more and counts as full. Else prove '..UptoSaid'. A law counts once. -/
mutual
def uptoBulk {H : Type} : DataW H → Nat
  | .lit (.string bytes) => bytes.length + 1
  | .lit _ => 1
  | .nil => 1
  | .ptr d => uptoBulk d + 1
  | .slice elems spare => uptoBulkAll elems + uptoBulkAll spare + 1
  | .agg parts => uptoBulkAll parts + 1
  | .iface _ d => uptoBulk d + 1
  | .map entries => uptoBulkEntries entries + 1
  | .held _ => 1
def uptoBulkAll {H : Type} : List (DataW H) → Nat
  | [] => 0
  | d :: r => uptoBulk d + uptoBulkAll r
def uptoBulkEntries {H : Type} : List (Lit × DataW H) → Nat
  | [] => 0
  | x :: r => uptoBulkEntry x + uptoBulkEntries r
def uptoBulkEntry {H : Type} : Lit × DataW H → Nat
  | (.string bytes, d) => bytes.length + uptoBulk d + 1
  | (_, d) => uptoBulk d + 1
 end
def uptoSmall : (H : Type) → List (DataW H) → Bool := fun _ ds => decide (uptoBulkAll ds ≤ 1048576)
def OpenSpec.upto (s : _root_.Go.ChangeSpec) : _root_.Go.OpenSpec := { _root_.Go.OpenSpec.ofChange s with cond := some uptoSmall }

/-- 'vizardlaw02.Ipv4Builds', WHERE WHAT IT READS IS OF BULK AT MOST 1048576: true; the input reads as it did. -/
def ipv4BuildsUptoRow : OpenClaim := { program := "ytnmijielhmkggaa", sum := "beb6a6589a6903d6b8b88e8c841dd19510950473ca162d29498aa8e91422a81b", func := "vizard/vizardlaw02.Ipv4Builds", spec := "ipv4Builds", recurses := true, apart := false, narrowed := true }
def Ipv4BuildsUptoSaid : Prop := ipv4BuildsUptoRow.holds Try.pinned (OpenSpec.upto ipv4BuildsSpec)

/-- 'vizardlaw02.Ipv4Back', WHERE WHAT IT READS IS OF BULK AT MOST 1048576: true; the input reads as it did. -/
def ipv4BackUptoRow : OpenClaim := { program := "ytnmijielhmkggaa", sum := "beb6a6589a6903d6b8b88e8c841dd19510950473ca162d29498aa8e91422a81b", func := "vizard/vizardlaw02.Ipv4Back", spec := "ipv4Back", apart := false, narrowed := true }
def Ipv4BackUptoSaid : Prop := ipv4BackUptoRow.holds Try.pinned (OpenSpec.upto ipv4BackSpec)

/-- 'vizardlaw02.Ipv4Told', WHERE WHAT IT READS IS OF BULK AT MOST 1048576: true; the input reads as it did. -/
def ipv4ToldUptoRow : OpenClaim := { program := "ytnmijielhmkggaa", sum := "beb6a6589a6903d6b8b88e8c841dd19510950473ca162d29498aa8e91422a81b", func := "vizard/vizardlaw02.Ipv4Told", spec := "ipv4Told", apart := false, narrowed := true }
def Ipv4ToldUptoSaid : Prop := ipv4ToldUptoRow.holds Try.pinned (OpenSpec.upto ipv4ToldSpec)

/-- 'vizardlaw02.Ipv4Sums', WHERE WHAT IT READS IS OF BULK AT MOST 1048576: true; the input reads as it did. -/
def ipv4SumsUptoRow : OpenClaim := { program := "ytnmijielhmkggaa", sum := "beb6a6589a6903d6b8b88e8c841dd19510950473ca162d29498aa8e91422a81b", func := "vizard/vizardlaw02.Ipv4Sums", spec := "ipv4Sums", apart := false, narrowed := true }
def Ipv4SumsUptoSaid : Prop := ipv4SumsUptoRow.holds Try.pinned (OpenSpec.upto ipv4SumsSpec)

/-- 'vizardlaw02.Ipv4Cuts', WHERE WHAT IT READS IS OF BULK AT MOST 1048576: true; the input reads as it did. -/
def ipv4CutsUptoRow : OpenClaim := { program := "ytnmijielhmkggaa", sum := "beb6a6589a6903d6b8b88e8c841dd19510950473ca162d29498aa8e91422a81b", func := "vizard/vizardlaw02.Ipv4Cuts", spec := "ipv4Cuts", apart := false, narrowed := true }
def Ipv4CutsUptoSaid : Prop := ipv4CutsUptoRow.holds Try.pinned (OpenSpec.upto ipv4CutsSpec)

/-- 'vizardlaw02.Ipv4Parses', WHERE WHAT IT READS IS OF BULK AT MOST 1048576: true; the input reads as it did. -/
def ipv4ParsesUptoRow : OpenClaim := { program := "ytnmijielhmkggaa", sum := "beb6a6589a6903d6b8b88e8c841dd19510950473ca162d29498aa8e91422a81b", func := "vizard/vizardlaw02.Ipv4Parses", spec := "ipv4Parses", recurses := true, apart := false, narrowed := true }
def Ipv4ParsesUptoSaid : Prop := ipv4ParsesUptoRow.holds Try.pinned (OpenSpec.upto ipv4ParsesSpec)

/-- 'vizardlaw02.Ipv4Hops', WHERE WHAT IT READS IS OF BULK AT MOST 1048576: true; the input reads as it did. -/
def ipv4HopsUptoRow : OpenClaim := { program := "ytnmijielhmkggaa", sum := "beb6a6589a6903d6b8b88e8c841dd19510950473ca162d29498aa8e91422a81b", func := "vizard/vizardlaw02.Ipv4Hops", spec := "ipv4Hops", apart := false, narrowed := true }
def Ipv4HopsUptoSaid : Prop := ipv4HopsUptoRow.holds Try.pinned (OpenSpec.upto ipv4HopsSpec)

end Rows
end Go.Proofs.Ytnmijielhmkggaa
