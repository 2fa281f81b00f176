/-
  No cell of these rows narrows 'for every input' (looked for: loops, veiled, ifaces, maps, wideKeys, modest, calm, conditions, laid).
  DERIVED. THE GIVEN ROWS OF THIS SEAT. 5 by the template 'for every input the law returns true; each argument reads behind the call as it read before'; 0 by the template 'total and deterministic' (their statements: YtanebifiafghnaaTotals.lean).
  GIVEN WITH THE SEED: the statements are not yours to turn. If you find one false, say at which input.
  Laid BY PROGRAM, IN A SANDBOX (cutbox-rows.mjs): the forced cells as the released guide's own fill.sh prints them over the translation e63dff3798646ba3… (all of the seat's roots in one cut). By AI agents, Wed Nov 11 2026. No macro, syntax, notation, axiom, sorry.
-/
import Derived.Test.YtanebifiafghnaaChecked
import GoSem.Claim
import GoSem.ClaimJoined
import GoSem.ClaimMapViews
import Derived.JoinedTies
import Derived.KernelRfl
namespace Go.Proofs.Ytanebifiafghnaa
/- THE CELL 'sum', in the pinned program and in every row, IS THE sha256 OF THE DUMP (.gsa) THAT YtanebifiafghnaaProg.lean LOADS. Nothing in Lean hashes anything: it is a label: what it is worth is what the hold of that sum in a sandbox is worth. -/
noncomputable def Try.pinned : Pinned := { name := "ytanebifiafghnaa", sum := "e63dff3798646ba328575b1b62dfa31ae37d4b55c83a8d0eae6c8f6f6ed7d85a", checked := Try.checked }
namespace Rows
def none {H : Type} : Left H := { results := [], args := [] }

/-- 'vizardlaw08.AcksChecks': WHATEVER THE INPUT: true; the input reads as it did. -/
def acksChecksSpec : ChangeSpec := { name := "acksChecks", fn := fun _ => fun
  | [d] => { results := [.lit (.bool true)], args := [d] }
  | _ => none }
def acksChecksRow : OpenClaim := { program := "ytanebifiafghnaa", sum := "e63dff3798646ba328575b1b62dfa31ae37d4b55c83a8d0eae6c8f6f6ed7d85a", func := "vizard/vizardlaw08.AcksChecks", spec := "acksChecks", apart := false }
def AcksChecksSaid : Prop := acksChecksRow.holds Try.pinned (OpenSpec.ofChange acksChecksSpec)

/-- ITS FALSE NEIGHBOUR: 'it returns false'. Refute it at one input. -/
def acksChecksWrong : ChangeSpec := { name := "acksChecks", fn := fun _ => fun
  | [d] => { results := [.lit (.bool false)], args := [d] }
  | _ => none }
def AcksChecksWrongFalsely : Prop := acksChecksRow.holds Try.pinned (OpenSpec.ofChange acksChecksWrong)

/-- 'vizardlaw08.AcksWhole': WHATEVER THE INPUT: true; the input reads as it did. -/
def acksWholeSpec : ChangeSpec := { name := "acksWhole", fn := fun _ => fun
  | [d] => { results := [.lit (.bool true)], args := [d] }
  | _ => none }
def acksWholeRow : OpenClaim := { program := "ytanebifiafghnaa", sum := "e63dff3798646ba328575b1b62dfa31ae37d4b55c83a8d0eae6c8f6f6ed7d85a", func := "vizard/vizardlaw08.AcksWhole", spec := "acksWhole", inPlace := ["slices.overlaps[vizard/api.Range]"], unfollowed := true, recurses := true, apart := false }
def AcksWholeSaid : Prop := acksWholeRow.holds Try.pinned (OpenSpec.ofChange acksWholeSpec)

/-- ITS FALSE NEIGHBOUR: 'it returns false'. Refute it at one input. -/
def acksWholeWrong : ChangeSpec := { name := "acksWhole", fn := fun _ => fun
  | [d] => { results := [.lit (.bool false)], args := [d] }
  | _ => none }
def AcksWholeWrongFalsely : Prop := acksWholeRow.holds Try.pinned (OpenSpec.ofChange acksWholeWrong)

/-- 'vizardlaw08.AcksRight': WHATEVER THE INPUT: true; the input reads as it did. -/
def acksRightSpec : ChangeSpec := { name := "acksRight", fn := fun _ => fun
  | [d1, d2] => { results := [.lit (.bool true)], args := [d1, d2] }
  | _ => none }
def acksRightRow : OpenClaim := { program := "ytanebifiafghnaa", sum := "e63dff3798646ba328575b1b62dfa31ae37d4b55c83a8d0eae6c8f6f6ed7d85a", func := "vizard/vizardlaw08.AcksRight", spec := "acksRight", inPlace := ["slices.overlaps[vizard/api.Range]"], unfollowed := true, recurses := true, apart := false }
def AcksRightSaid : Prop := acksRightRow.holds Try.pinned (OpenSpec.ofChange acksRightSpec)

/-- ITS FALSE NEIGHBOUR: 'it returns false'. Refute it at one input. -/
def acksRightWrong : ChangeSpec := { name := "acksRight", fn := fun _ => fun
  | [d1, d2] => { results := [.lit (.bool false)], args := [d1, d2] }
  | _ => none }
def AcksRightWrongFalsely : Prop := acksRightRow.holds Try.pinned (OpenSpec.ofChange acksRightWrong)

/-- 'vizardlaw08.AcksKeeps': WHATEVER THE INPUT: true; the input reads as it did. -/
def acksKeepsSpec : ChangeSpec := { name := "acksKeeps", fn := fun _ => fun
  | [d1, d2] => { results := [.lit (.bool true)], args := [d1, d2] }
  | _ => none }
def acksKeepsRow : OpenClaim := { program := "ytanebifiafghnaa", sum := "e63dff3798646ba328575b1b62dfa31ae37d4b55c83a8d0eae6c8f6f6ed7d85a", func := "vizard/vizardlaw08.AcksKeeps", spec := "acksKeeps", inPlace := ["slices.overlaps[vizard/api.Range]"], unfollowed := true, recurses := true, apart := false }
def AcksKeepsSaid : Prop := acksKeepsRow.holds Try.pinned (OpenSpec.ofChange acksKeepsSpec)

/-- ITS FALSE NEIGHBOUR: 'it returns false'. Refute it at one input. -/
def acksKeepsWrong : ChangeSpec := { name := "acksKeeps", fn := fun _ => fun
  | [d1, d2] => { results := [.lit (.bool false)], args := [d1, d2] }
  | _ => none }
def AcksKeepsWrongFalsely : Prop := acksKeepsRow.holds Try.pinned (OpenSpec.ofChange acksKeepsWrong)

/-- 'vizardlaw08.AcksDrops': WHATEVER THE INPUT: true; the input reads as it did. -/
def acksDropsSpec : ChangeSpec := { name := "acksDrops", fn := fun _ => fun
  | [d1, d2, d3] => { results := [.lit (.bool true)], args := [d1, d2, d3] }
  | _ => none }
def acksDropsRow : OpenClaim := { program := "ytanebifiafghnaa", sum := "e63dff3798646ba328575b1b62dfa31ae37d4b55c83a8d0eae6c8f6f6ed7d85a", func := "vizard/vizardlaw08.AcksDrops", spec := "acksDrops", inPlace := ["slices.overlaps[vizard/api.Range]"], unfollowed := true, recurses := true, apart := false }
def AcksDropsSaid : Prop := acksDropsRow.holds Try.pinned (OpenSpec.ofChange acksDropsSpec)

/-- ITS FALSE NEIGHBOUR: 'it returns false'. Refute it at one input. -/
def acksDropsWrong : ChangeSpec := { name := "acksDrops", fn := fun _ => fun
  | [d1, d2, d3] => { results := [.lit (.bool false)], args := [d1, d2, d3] }
  | _ => none }
def AcksDropsWrongFalsely : Prop := acksDropsRow.holds Try.pinned (OpenSpec.ofChange acksDropsWrong)

/- THE SECOND FORM. 'bulk': how many values and letters a reading holds, each counted each time it is reached (what is shared counts as often as it is met; a slice's spare places count too). A statement '..UptoSaid' is the law's where the arguments, and the package variables that the reading takes, are together of bulk at most 1048576: NARROWER than '..Said'. Prove '..Said' where nothing that the law and all that it calls make is longer than what came in: it says more and counts as full. Else prove '..UptoSaid'. A law counts once. -/
mutual
def uptoBulk {H : Type} : DataW H → Nat
  | .lit (.string bytes) => bytes.length + 1
  | .lit _ => 1
  | .nil => 1
  | .ptr d => uptoBulk d + 1
  | .slice elems spare => uptoBulkAll elems + uptoBulkAll spare + 1
  | .agg parts => uptoBulkAll parts + 1
  | .iface _ d => uptoBulk d + 1
  | .map entries => uptoBulkEntries entries + 1
  | .held _ => 1
def uptoBulkAll {H : Type} : List (DataW H) → Nat
  | [] => 0
  | d :: r => uptoBulk d + uptoBulkAll r
def uptoBulkEntries {H : Type} : List (Lit × DataW H) → Nat
  | [] => 0
  | x :: r => uptoBulkEntry x + uptoBulkEntries r
def uptoBulkEntry {H : Type} : Lit × DataW H → Nat
  | (.string bytes, d) => bytes.length + uptoBulk d + 1
  | (_, d) => uptoBulk d + 1
 end
def uptoSmall : (H : Type) → List (DataW H) → Bool := fun _ ds => decide (uptoBulkAll ds ≤ 1048576)
def OpenSpec.upto (s : _root_.Go.ChangeSpec) : _root_.Go.OpenSpec := { _root_.Go.OpenSpec.ofChange s with cond := some uptoSmall }

/-- 'vizardlaw08.AcksChecks', WHERE WHAT IT READS IS OF BULK AT MOST 1048576: true; the input reads as it did. -/
def acksChecksUptoRow : OpenClaim := { program := "ytanebifiafghnaa", sum := "e63dff3798646ba328575b1b62dfa31ae37d4b55c83a8d0eae6c8f6f6ed7d85a", func := "vizard/vizardlaw08.AcksChecks", spec := "acksChecks", apart := false, narrowed := true }
def AcksChecksUptoSaid : Prop := acksChecksUptoRow.holds Try.pinned (OpenSpec.upto acksChecksSpec)

/-- 'vizardlaw08.AcksWhole', WHERE WHAT IT READS IS OF BULK AT MOST 1048576: true; the input reads as it did. -/
def acksWholeUptoRow : OpenClaim := { program := "ytanebifiafghnaa", sum := "e63dff3798646ba328575b1b62dfa31ae37d4b55c83a8d0eae6c8f6f6ed7d85a", func := "vizard/vizardlaw08.AcksWhole", spec := "acksWhole", inPlace := ["slices.overlaps[vizard/api.Range]"], unfollowed := true, recurses := true, apart := false, narrowed := true }
def AcksWholeUptoSaid : Prop := acksWholeUptoRow.holds Try.pinned (OpenSpec.upto acksWholeSpec)

/-- 'vizardlaw08.AcksRight', WHERE WHAT IT READS IS OF BULK AT MOST 1048576: true; the input reads as it did. -/
def acksRightUptoRow : OpenClaim := { program := "ytanebifiafghnaa", sum := "e63dff3798646ba328575b1b62dfa31ae37d4b55c83a8d0eae6c8f6f6ed7d85a", func := "vizard/vizardlaw08.AcksRight", spec := "acksRight", inPlace := ["slices.overlaps[vizard/api.Range]"], unfollowed := true, recurses := true, apart := false, narrowed := true }
def AcksRightUptoSaid : Prop := acksRightUptoRow.holds Try.pinned (OpenSpec.upto acksRightSpec)

/-- 'vizardlaw08.AcksKeeps', WHERE WHAT IT READS IS OF BULK AT MOST 1048576: true; the input reads as it did. -/
def acksKeepsUptoRow : OpenClaim := { program := "ytanebifiafghnaa", sum := "e63dff3798646ba328575b1b62dfa31ae37d4b55c83a8d0eae6c8f6f6ed7d85a", func := "vizard/vizardlaw08.AcksKeeps", spec := "acksKeeps", inPlace := ["slices.overlaps[vizard/api.Range]"], unfollowed := true, recurses := true, apart := false, narrowed := true }
def AcksKeepsUptoSaid : Prop := acksKeepsUptoRow.holds Try.pinned (OpenSpec.upto acksKeepsSpec)

/-- 'vizardlaw08.AcksDrops', WHERE WHAT IT READS IS OF BULK AT MOST 1048576: true; the input reads as it did. -/
def acksDropsUptoRow : OpenClaim := { program := "ytanebifiafghnaa", sum := "e63dff3798646ba328575b1b62dfa31ae37d4b55c83a8d0eae6c8f6f6ed7d85a", func := "vizard/vizardlaw08.AcksDrops", spec := "acksDrops", inPlace := ["slices.overlaps[vizard/api.Range]"], unfollowed := true, recurses := true, apart := false, narrowed := true }
def AcksDropsUptoSaid : Prop := acksDropsUptoRow.holds Try.pinned (OpenSpec.upto acksDropsSpec)

end Rows
end Go.Proofs.Ytanebifiafghnaa
