/-
  No cell of these rows narrows 'for every input' (looked for: loops, veiled, ifaces, maps, wideKeys, modest, calm, conditions, laid).
  DERIVED. THE GIVEN ROWS OF THIS SEAT. 5 by the template 'for every input the law returns true; each argument reads behind the call as it read before'; 0 by the template 'total and deterministic' (their statements: YtmgepidjeddapaaTotals.lean).
  GIVEN WITH THE SEED: the statements are not yours to turn. If you find one false, say at which input.
  Laid BY PROGRAM, IN A SANDBOX (cutbox-rows.mjs): the forced cells as the released guide's own fill.sh prints them over the translation fbf818fdd67f5c8e… (all of the seat's roots in one cut). By AI agents, Wed Nov 11 2026. No macro, syntax, notation, axiom, sorry.
-/
import Derived.Test.YtmgepidjeddapaaChecked
import GoSem.Claim
import GoSem.ClaimJoined
import GoSem.ClaimMapViews
import Derived.JoinedTies
import Derived.KernelRfl
namespace Go.Proofs.Ytmgepidjeddapaa
/- THE CELL 'sum', in the pinned program and in every row, IS THE sha256 OF THE DUMP (.gsa) THAT YtmgepidjeddapaaProg.lean LOADS. Nothing in Lean hashes anything: it is a label: what it is worth is what the hold of that sum in a sandbox is worth. -/
noncomputable def Try.pinned : Pinned := { name := "ytmgepidjeddapaa", sum := "fbf818fdd67f5c8ecd9a458682934f236d83e29d6815bfeef5ff046cd096f3f3", checked := Try.checked }
namespace Rows
def none {H : Type} : Left H := { results := [], args := [] }

/-- 'vizardlaw03.UdpBuilds': WHATEVER THE INPUT: true; the input reads as it did. -/
def udpBuildsSpec : ChangeSpec := { name := "udpBuilds", fn := fun _ => fun
  | [d] => { results := [.lit (.bool true)], args := [d] }
  | _ => none }
def udpBuildsRow : OpenClaim := { program := "ytmgepidjeddapaa", sum := "fbf818fdd67f5c8ecd9a458682934f236d83e29d6815bfeef5ff046cd096f3f3", func := "vizard/vizardlaw03.UdpBuilds", spec := "udpBuilds", recurses := true, apart := false }
def UdpBuildsSaid : Prop := udpBuildsRow.holds Try.pinned (OpenSpec.ofChange udpBuildsSpec)

/-- ITS FALSE NEIGHBOUR: 'it returns false'. Refute it at one input. -/
def udpBuildsWrong : ChangeSpec := { name := "udpBuilds", fn := fun _ => fun
  | [d] => { results := [.lit (.bool false)], args := [d] }
  | _ => none }
def UdpBuildsWrongFalsely : Prop := udpBuildsRow.holds Try.pinned (OpenSpec.ofChange udpBuildsWrong)

/-- 'vizardlaw03.UdpTurned': WHATEVER THE INPUT: true; the input reads as it did. -/
def udpTurnedSpec : ChangeSpec := { name := "udpTurned", fn := fun _ => fun
  | [d] => { results := [.lit (.bool true)], args := [d] }
  | _ => none }
def udpTurnedRow : OpenClaim := { program := "ytmgepidjeddapaa", sum := "fbf818fdd67f5c8ecd9a458682934f236d83e29d6815bfeef5ff046cd096f3f3", func := "vizard/vizardlaw03.UdpTurned", spec := "udpTurned", apart := false }
def UdpTurnedSaid : Prop := udpTurnedRow.holds Try.pinned (OpenSpec.ofChange udpTurnedSpec)

/-- ITS FALSE NEIGHBOUR: 'it returns false'. Refute it at one input. -/
def udpTurnedWrong : ChangeSpec := { name := "udpTurned", fn := fun _ => fun
  | [d] => { results := [.lit (.bool false)], args := [d] }
  | _ => none }
def UdpTurnedWrongFalsely : Prop := udpTurnedRow.holds Try.pinned (OpenSpec.ofChange udpTurnedWrong)

/-- 'vizardlaw03.UdpTold': WHATEVER THE INPUT: true; the input reads as it did. -/
def udpToldSpec : ChangeSpec := { name := "udpTold", fn := fun _ => fun
  | [d1, d2, d3] => { results := [.lit (.bool true)], args := [d1, d2, d3] }
  | _ => none }
def udpToldRow : OpenClaim := { program := "ytmgepidjeddapaa", sum := "fbf818fdd67f5c8ecd9a458682934f236d83e29d6815bfeef5ff046cd096f3f3", func := "vizard/vizardlaw03.UdpTold", spec := "udpTold", apart := false }
def UdpToldSaid : Prop := udpToldRow.holds Try.pinned (OpenSpec.ofChange udpToldSpec)

/-- ITS FALSE NEIGHBOUR: 'it returns false'. Refute it at one input. -/
def udpToldWrong : ChangeSpec := { name := "udpTold", fn := fun _ => fun
  | [d1, d2, d3] => { results := [.lit (.bool false)], args := [d1, d2, d3] }
  | _ => none }
def UdpToldWrongFalsely : Prop := udpToldRow.holds Try.pinned (OpenSpec.ofChange udpToldWrong)

/-- 'vizardlaw03.UdpPorts': WHATEVER THE INPUT: true; the input reads as it did. -/
def udpPortsSpec : ChangeSpec := { name := "udpPorts", fn := fun _ => fun
  | [d] => { results := [.lit (.bool true)], args := [d] }
  | _ => none }
def udpPortsRow : OpenClaim := { program := "ytmgepidjeddapaa", sum := "fbf818fdd67f5c8ecd9a458682934f236d83e29d6815bfeef5ff046cd096f3f3", func := "vizard/vizardlaw03.UdpPorts", spec := "udpPorts", apart := false }
def UdpPortsSaid : Prop := udpPortsRow.holds Try.pinned (OpenSpec.ofChange udpPortsSpec)

/-- ITS FALSE NEIGHBOUR: 'it returns false'. Refute it at one input. -/
def udpPortsWrong : ChangeSpec := { name := "udpPorts", fn := fun _ => fun
  | [d] => { results := [.lit (.bool false)], args := [d] }
  | _ => none }
def UdpPortsWrongFalsely : Prop := udpPortsRow.holds Try.pinned (OpenSpec.ofChange udpPortsWrong)

/-- 'vizardlaw03.UdpWithin': WHATEVER THE INPUT: true; the input reads as it did. -/
def udpWithinSpec : ChangeSpec := { name := "udpWithin", fn := fun _ => fun
  | [d1, d2] => { results := [.lit (.bool true)], args := [d1, d2] }
  | _ => none }
def udpWithinRow : OpenClaim := { program := "ytmgepidjeddapaa", sum := "fbf818fdd67f5c8ecd9a458682934f236d83e29d6815bfeef5ff046cd096f3f3", func := "vizard/vizardlaw03.UdpWithin", spec := "udpWithin", apart := false }
def UdpWithinSaid : Prop := udpWithinRow.holds Try.pinned (OpenSpec.ofChange udpWithinSpec)

/-- ITS FALSE NEIGHBOUR: 'it returns false'. Refute it at one input. -/
def udpWithinWrong : ChangeSpec := { name := "udpWithin", fn := fun _ => fun
  | [d1, d2] => { results := [.lit (.bool false)], args := [d1, d2] }
  | _ => none }
def UdpWithinWrongFalsely : Prop := udpWithinRow.holds Try.pinned (OpenSpec.ofChange udpWithinWrong)

/- THE SECOND FORM. 'bulk': how many values and letters a reading holds, each counted each time it is reached (what is shared counts as often as it is met; a slice's spare places count too). A statement '..UptoSaid' is the law's where the arguments, and the package variables that the reading takes, are together of bulk at most 1048576: NARROWER than '..Said'. Prove '..Said' where nothing that the law and all that it calls make is longer than what came in: it says more and counts as full. Else prove '..UptoSaid'. A law counts once. -/
mutual
def uptoBulk {H : Type} : DataW H → Nat
  | .lit (.string bytes) => bytes.length + 1
  | .lit _ => 1
  | .nil => 1
  | .ptr d => uptoBulk d + 1
  | .slice elems spare => uptoBulkAll elems + uptoBulkAll spare + 1
  | .agg parts => uptoBulkAll parts + 1
  | .iface _ d => uptoBulk d + 1
  | .map entries => uptoBulkEntries entries + 1
  | .held _ => 1
def uptoBulkAll {H : Type} : List (DataW H) → Nat
  | [] => 0
  | d :: r => uptoBulk d + uptoBulkAll r
def uptoBulkEntries {H : Type} : List (Lit × DataW H) → Nat
  | [] => 0
  | x :: r => uptoBulkEntry x + uptoBulkEntries r
def uptoBulkEntry {H : Type} : Lit × DataW H → Nat
  | (.string bytes, d) => bytes.length + uptoBulk d + 1
  | (_, d) => uptoBulk d + 1
 end
def uptoSmall : (H : Type) → List (DataW H) → Bool := fun _ ds => decide (uptoBulkAll ds ≤ 1048576)
def OpenSpec.upto (s : _root_.Go.ChangeSpec) : _root_.Go.OpenSpec := { _root_.Go.OpenSpec.ofChange s with cond := some uptoSmall }

/-- 'vizardlaw03.UdpBuilds', WHERE WHAT IT READS IS OF BULK AT MOST 1048576: true; the input reads as it did. -/
def udpBuildsUptoRow : OpenClaim := { program := "ytmgepidjeddapaa", sum := "fbf818fdd67f5c8ecd9a458682934f236d83e29d6815bfeef5ff046cd096f3f3", func := "vizard/vizardlaw03.UdpBuilds", spec := "udpBuilds", recurses := true, apart := false, narrowed := true }
def UdpBuildsUptoSaid : Prop := udpBuildsUptoRow.holds Try.pinned (OpenSpec.upto udpBuildsSpec)

/-- 'vizardlaw03.UdpTurned', WHERE WHAT IT READS IS OF BULK AT MOST 1048576: true; the input reads as it did. -/
def udpTurnedUptoRow : OpenClaim := { program := "ytmgepidjeddapaa", sum := "fbf818fdd67f5c8ecd9a458682934f236d83e29d6815bfeef5ff046cd096f3f3", func := "vizard/vizardlaw03.UdpTurned", spec := "udpTurned", apart := false, narrowed := true }
def UdpTurnedUptoSaid : Prop := udpTurnedUptoRow.holds Try.pinned (OpenSpec.upto udpTurnedSpec)

/-- 'vizardlaw03.UdpTold', WHERE WHAT IT READS IS OF BULK AT MOST 1048576: true; the input reads as it did. -/
def udpToldUptoRow : OpenClaim := { program := "ytmgepidjeddapaa", sum := "fbf818fdd67f5c8ecd9a458682934f236d83e29d6815bfeef5ff046cd096f3f3", func := "vizard/vizardlaw03.UdpTold", spec := "udpTold", apart := false, narrowed := true }
def UdpToldUptoSaid : Prop := udpToldUptoRow.holds Try.pinned (OpenSpec.upto udpToldSpec)

/-- 'vizardlaw03.UdpPorts', WHERE WHAT IT READS IS OF BULK AT MOST 1048576: true; the input reads as it did. -/
def udpPortsUptoRow : OpenClaim := { program := "ytmgepidjeddapaa", sum := "fbf818fdd67f5c8ecd9a458682934f236d83e29d6815bfeef5ff046cd096f3f3", func := "vizard/vizardlaw03.UdpPorts", spec := "udpPorts", apart := false, narrowed := true }
def UdpPortsUptoSaid : Prop := udpPortsUptoRow.holds Try.pinned (OpenSpec.upto udpPortsSpec)

/-- 'vizardlaw03.UdpWithin', WHERE WHAT IT READS IS OF BULK AT MOST 1048576: true; the input reads as it did. -/
def udpWithinUptoRow : OpenClaim := { program := "ytmgepidjeddapaa", sum := "fbf818fdd67f5c8ecd9a458682934f236d83e29d6815bfeef5ff046cd096f3f3", func := "vizard/vizardlaw03.UdpWithin", spec := "udpWithin", apart := false, narrowed := true }
def UdpWithinUptoSaid : Prop := udpWithinUptoRow.holds Try.pinned (OpenSpec.upto udpWithinSpec)

end Rows
end Go.Proofs.Ytmgepidjeddapaa
