/-
  No cell of these rows narrows 'for every input' (looked for: loops, veiled, ifaces, maps, wideKeys, modest, calm, conditions, laid).
  DERIVED. THE GIVEN ROWS OF THIS SEAT. 5 by the template 'for every input the law returns true; each argument reads behind the call as it read before'; 0 by the template 'total and deterministic' (their statements: YtcieopcihbgfdaaTotals.lean).
  GIVEN WITH THE SEED: the statements are not yours to turn. If you find one false, say at which input.
  Laid BY PROGRAM, IN A SANDBOX (cutbox-rows.mjs): the forced cells as the released guide's own fill.sh prints them over the translation b80e69f0435512ec… (all of the seat's roots in one cut). By AI agents, Wed Nov 11 2026. No macro, syntax, notation, axiom, sorry.
-/
import Derived.Test.YtcieopcihbgfdaaChecked
import GoSem.Claim
import GoSem.ClaimJoined
import GoSem.ClaimMapViews
import Derived.JoinedTies
import Derived.KernelRfl
namespace Go.Proofs.Ytcieopcihbgfdaa
/- THE CELL 'sum', in the pinned program and in every row, IS THE sha256 OF THE DUMP (.gsa) THAT YtcieopcihbgfdaaProg.lean LOADS. Nothing in Lean hashes anything: it is a label: what it is worth is what the hold of that sum in a sandbox is worth. -/
noncomputable def Try.pinned : Pinned := { name := "ytcieopcihbgfdaa", sum := "b80e69f0435512ec32c304cce39a9da3dbd7c1473e0578ebb50bb3f33772b710", checked := Try.checked }
namespace Rows
def none {H : Type} : Left H := { results := [], args := [] }

/-- 'vizardlaw20.FairShares': WHATEVER THE INPUT: true; the input reads as it did. -/
def fairSharesSpec : ChangeSpec := { name := "fairShares", fn := fun _ => fun
  | [d1, d2, d3, d4] => { results := [.lit (.bool true)], args := [d1, d2, d3, d4] }
  | _ => none }
def fairSharesRow : OpenClaim := { program := "ytcieopcihbgfdaa", sum := "b80e69f0435512ec32c304cce39a9da3dbd7c1473e0578ebb50bb3f33772b710", func := "vizard/vizardlaw20.FairShares", spec := "fairShares", apart := false }
def FairSharesSaid : Prop := fairSharesRow.holds Try.pinned (OpenSpec.ofChange fairSharesSpec)

/-- ITS FALSE NEIGHBOUR: 'it returns false'. Refute it at one input. -/
def fairSharesWrong : ChangeSpec := { name := "fairShares", fn := fun _ => fun
  | [d1, d2, d3, d4] => { results := [.lit (.bool false)], args := [d1, d2, d3, d4] }
  | _ => none }
def FairSharesWrongFalsely : Prop := fairSharesRow.holds Try.pinned (OpenSpec.ofChange fairSharesWrong)

/-- 'vizardlaw20.FairAlone': WHATEVER THE INPUT: true; the input reads as it did. -/
def fairAloneSpec : ChangeSpec := { name := "fairAlone", fn := fun _ => fun
  | [d1, d2] => { results := [.lit (.bool true)], args := [d1, d2] }
  | _ => none }
def fairAloneRow : OpenClaim := { program := "ytcieopcihbgfdaa", sum := "b80e69f0435512ec32c304cce39a9da3dbd7c1473e0578ebb50bb3f33772b710", func := "vizard/vizardlaw20.FairAlone", spec := "fairAlone", apart := false }
def FairAloneSaid : Prop := fairAloneRow.holds Try.pinned (OpenSpec.ofChange fairAloneSpec)

/-- ITS FALSE NEIGHBOUR: 'it returns false'. Refute it at one input. -/
def fairAloneWrong : ChangeSpec := { name := "fairAlone", fn := fun _ => fun
  | [d1, d2] => { results := [.lit (.bool false)], args := [d1, d2] }
  | _ => none }
def FairAloneWrongFalsely : Prop := fairAloneRow.holds Try.pinned (OpenSpec.ofChange fairAloneWrong)

/-- 'vizardlaw20.FairDoes': WHATEVER THE INPUT: true; the input reads as it did. -/
def fairDoesSpec : ChangeSpec := { name := "fairDoes", fn := fun _ => fun
  | [d1, d2, d3] => { results := [.lit (.bool true)], args := [d1, d2, d3] }
  | _ => none }
def fairDoesRow : OpenClaim := { program := "ytcieopcihbgfdaa", sum := "b80e69f0435512ec32c304cce39a9da3dbd7c1473e0578ebb50bb3f33772b710", func := "vizard/vizardlaw20.FairDoes", spec := "fairDoes", apart := false }
def FairDoesSaid : Prop := fairDoesRow.holds Try.pinned (OpenSpec.ofChange fairDoesSpec)

/-- ITS FALSE NEIGHBOUR: 'it returns false'. Refute it at one input. -/
def fairDoesWrong : ChangeSpec := { name := "fairDoes", fn := fun _ => fun
  | [d1, d2, d3] => { results := [.lit (.bool false)], args := [d1, d2, d3] }
  | _ => none }
def FairDoesWrongFalsely : Prop := fairDoesRow.holds Try.pinned (OpenSpec.ofChange fairDoesWrong)

/-- 'vizardlaw20.FairOrder': WHATEVER THE INPUT: true; the input reads as it did. -/
def fairOrderSpec : ChangeSpec := { name := "fairOrder", fn := fun _ => fun
  | [d1, d2, d3] => { results := [.lit (.bool true)], args := [d1, d2, d3] }
  | _ => none }
def fairOrderRow : OpenClaim := { program := "ytcieopcihbgfdaa", sum := "b80e69f0435512ec32c304cce39a9da3dbd7c1473e0578ebb50bb3f33772b710", func := "vizard/vizardlaw20.FairOrder", spec := "fairOrder", apart := false }
def FairOrderSaid : Prop := fairOrderRow.holds Try.pinned (OpenSpec.ofChange fairOrderSpec)

/-- ITS FALSE NEIGHBOUR: 'it returns false'. Refute it at one input. -/
def fairOrderWrong : ChangeSpec := { name := "fairOrder", fn := fun _ => fun
  | [d1, d2, d3] => { results := [.lit (.bool false)], args := [d1, d2, d3] }
  | _ => none }
def FairOrderWrongFalsely : Prop := fairOrderRow.holds Try.pinned (OpenSpec.ofChange fairOrderWrong)

/-- 'vizardlaw20.FairFull': WHATEVER THE INPUT: true; the input reads as it did. -/
def fairFullSpec : ChangeSpec := { name := "fairFull", fn := fun _ => fun
  | [d1, d2, d3] => { results := [.lit (.bool true)], args := [d1, d2, d3] }
  | _ => none }
def fairFullRow : OpenClaim := { program := "ytcieopcihbgfdaa", sum := "b80e69f0435512ec32c304cce39a9da3dbd7c1473e0578ebb50bb3f33772b710", func := "vizard/vizardlaw20.FairFull", spec := "fairFull", apart := false }
def FairFullSaid : Prop := fairFullRow.holds Try.pinned (OpenSpec.ofChange fairFullSpec)

/-- ITS FALSE NEIGHBOUR: 'it returns false'. Refute it at one input. -/
def fairFullWrong : ChangeSpec := { name := "fairFull", fn := fun _ => fun
  | [d1, d2, d3] => { results := [.lit (.bool false)], args := [d1, d2, d3] }
  | _ => none }
def FairFullWrongFalsely : Prop := fairFullRow.holds Try.pinned (OpenSpec.ofChange fairFullWrong)

/- THE SECOND FORM. 'bulk': how many values and letters a reading holds, each counted each time it is reached (what is shared counts as often as it is met; a slice's spare places count too). A statement '..UptoSaid' is the law's where the arguments, and the package variables that the reading takes, are together of bulk at most 1048576: NARROWER than '..Said'. Prove '..Said' where nothing that the law and all that it calls make is longer than what came in: it says more and counts as full. Else prove '..UptoSaid'. A law counts once. -/
mutual
def uptoBulk {H : Type} : DataW H → Nat
  | .lit (.string bytes) => bytes.length + 1
  | .lit _ => 1
  | .nil => 1
  | .ptr d => uptoBulk d + 1
  | .slice elems spare => uptoBulkAll elems + uptoBulkAll spare + 1
  | .agg parts => uptoBulkAll parts + 1
  | .iface _ d => uptoBulk d + 1
  | .map entries => uptoBulkEntries entries + 1
  | .held _ => 1
def uptoBulkAll {H : Type} : List (DataW H) → Nat
  | [] => 0
  | d :: r => uptoBulk d + uptoBulkAll r
def uptoBulkEntries {H : Type} : List (Lit × DataW H) → Nat
  | [] => 0
  | x :: r => uptoBulkEntry x + uptoBulkEntries r
def uptoBulkEntry {H : Type} : Lit × DataW H → Nat
  | (.string bytes, d) => bytes.length + uptoBulk d + 1
  | (_, d) => uptoBulk d + 1
 end
def uptoSmall : (H : Type) → List (DataW H) → Bool := fun _ ds => decide (uptoBulkAll ds ≤ 1048576)
def OpenSpec.upto (s : _root_.Go.ChangeSpec) : _root_.Go.OpenSpec := { _root_.Go.OpenSpec.ofChange s with cond := some uptoSmall }

/-- 'vizardlaw20.FairShares', WHERE WHAT IT READS IS OF BULK AT MOST 1048576: true; the input reads as it did. -/
def fairSharesUptoRow : OpenClaim := { program := "ytcieopcihbgfdaa", sum := "b80e69f0435512ec32c304cce39a9da3dbd7c1473e0578ebb50bb3f33772b710", func := "vizard/vizardlaw20.FairShares", spec := "fairShares", apart := false, narrowed := true }
def FairSharesUptoSaid : Prop := fairSharesUptoRow.holds Try.pinned (OpenSpec.upto fairSharesSpec)

/-- 'vizardlaw20.FairAlone', WHERE WHAT IT READS IS OF BULK AT MOST 1048576: true; the input reads as it did. -/
def fairAloneUptoRow : OpenClaim := { program := "ytcieopcihbgfdaa", sum := "b80e69f0435512ec32c304cce39a9da3dbd7c1473e0578ebb50bb3f33772b710", func := "vizard/vizardlaw20.FairAlone", spec := "fairAlone", apart := false, narrowed := true }
def FairAloneUptoSaid : Prop := fairAloneUptoRow.holds Try.pinned (OpenSpec.upto fairAloneSpec)

/-- 'vizardlaw20.FairDoes', WHERE WHAT IT READS IS OF BULK AT MOST 1048576: true; the input reads as it did. -/
def fairDoesUptoRow : OpenClaim := { program := "ytcieopcihbgfdaa", sum := "b80e69f0435512ec32c304cce39a9da3dbd7c1473e0578ebb50bb3f33772b710", func := "vizard/vizardlaw20.FairDoes", spec := "fairDoes", apart := false, narrowed := true }
def FairDoesUptoSaid : Prop := fairDoesUptoRow.holds Try.pinned (OpenSpec.upto fairDoesSpec)

/-- 'vizardlaw20.FairOrder', WHERE WHAT IT READS IS OF BULK AT MOST 1048576: true; the input reads as it did. -/
def fairOrderUptoRow : OpenClaim := { program := "ytcieopcihbgfdaa", sum := "b80e69f0435512ec32c304cce39a9da3dbd7c1473e0578ebb50bb3f33772b710", func := "vizard/vizardlaw20.FairOrder", spec := "fairOrder", apart := false, narrowed := true }
def FairOrderUptoSaid : Prop := fairOrderUptoRow.holds Try.pinned (OpenSpec.upto fairOrderSpec)

/-- 'vizardlaw20.FairFull', WHERE WHAT IT READS IS OF BULK AT MOST 1048576: true; the input reads as it did. -/
def fairFullUptoRow : OpenClaim := { program := "ytcieopcihbgfdaa", sum := "b80e69f0435512ec32c304cce39a9da3dbd7c1473e0578ebb50bb3f33772b710", func := "vizard/vizardlaw20.FairFull", spec := "fairFull", apart := false, narrowed := true }
def FairFullUptoSaid : Prop := fairFullUptoRow.holds Try.pinned (OpenSpec.upto fairFullSpec)

end Rows
end Go.Proofs.Ytcieopcihbgfdaa
