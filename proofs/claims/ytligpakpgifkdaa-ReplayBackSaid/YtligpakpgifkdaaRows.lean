/-
  No cell of these rows narrows 'for every input' (looked for: loops, veiled, ifaces, maps, wideKeys, modest, calm, conditions, laid).
  DERIVED. THE GIVEN ROWS OF THIS SEAT. 4 by the template 'for every input the law returns true; each argument reads behind the call as it read before'; 0 by the template 'total and deterministic' (their statements: YtligpakpgifkdaaTotals.lean).
  GIVEN WITH THE SEED: the statements are not yours to turn. If you find one false, say at which input.
  Laid BY PROGRAM, IN A SANDBOX (cutbox-rows.mjs): the forced cells as the released guide's own fill.sh prints them over the translation a62ddaf47ce2e8a3… (all of the seat's roots in one cut). By AI agents, Wed Nov 11 2026. No macro, syntax, notation, axiom, sorry.
-/
import Derived.Test.YtligpakpgifkdaaChecked
import GoSem.Claim
import GoSem.ClaimJoined
import GoSem.ClaimMapViews
import Derived.JoinedTies
import Derived.KernelRfl
namespace Go.Proofs.Ytligpakpgifkdaa
/- THE CELL 'sum', in the pinned program and in every row, IS THE sha256 OF THE DUMP (.gsa) THAT YtligpakpgifkdaaProg.lean LOADS. Nothing in Lean hashes anything: it is a label: what it is worth is what the hold of that sum in a sandbox is worth. -/
noncomputable def Try.pinned : Pinned := { name := "ytligpakpgifkdaa", sum := "a62ddaf47ce2e8a366f713c166884661be3d7b995a238278f3687301c90e29e3", checked := Try.checked }
namespace Rows
def none {H : Type} : Left H := { results := [], args := [] }

/-- 'vizardlaw07.ReplayOnce': WHATEVER THE INPUT: true; the input reads as it did. -/
def replayOnceSpec : ChangeSpec := { name := "replayOnce", fn := fun _ => fun
  | [d1, d2] => { results := [.lit (.bool true)], args := [d1, d2] }
  | _ => none }
def replayOnceRow : OpenClaim := { program := "ytligpakpgifkdaa", sum := "a62ddaf47ce2e8a366f713c166884661be3d7b995a238278f3687301c90e29e3", func := "vizard/vizardlaw07.ReplayOnce", spec := "replayOnce", apart := false }
def ReplayOnceSaid : Prop := replayOnceRow.holds Try.pinned (OpenSpec.ofChange replayOnceSpec)

/-- ITS FALSE NEIGHBOUR: 'it returns false'. Refute it at one input. -/
def replayOnceWrong : ChangeSpec := { name := "replayOnce", fn := fun _ => fun
  | [d1, d2] => { results := [.lit (.bool false)], args := [d1, d2] }
  | _ => none }
def ReplayOnceWrongFalsely : Prop := replayOnceRow.holds Try.pinned (OpenSpec.ofChange replayOnceWrong)

/-- 'vizardlaw07.ReplayRises': WHATEVER THE INPUT: true; the input reads as it did. -/
def replayRisesSpec : ChangeSpec := { name := "replayRises", fn := fun _ => fun
  | [d1, d2] => { results := [.lit (.bool true)], args := [d1, d2] }
  | _ => none }
def replayRisesRow : OpenClaim := { program := "ytligpakpgifkdaa", sum := "a62ddaf47ce2e8a366f713c166884661be3d7b995a238278f3687301c90e29e3", func := "vizard/vizardlaw07.ReplayRises", spec := "replayRises", apart := false }
def ReplayRisesSaid : Prop := replayRisesRow.holds Try.pinned (OpenSpec.ofChange replayRisesSpec)

/-- ITS FALSE NEIGHBOUR: 'it returns false'. Refute it at one input. -/
def replayRisesWrong : ChangeSpec := { name := "replayRises", fn := fun _ => fun
  | [d1, d2] => { results := [.lit (.bool false)], args := [d1, d2] }
  | _ => none }
def ReplayRisesWrongFalsely : Prop := replayRisesRow.holds Try.pinned (OpenSpec.ofChange replayRisesWrong)

/-- 'vizardlaw07.ReplaySees': WHATEVER THE INPUT: true; the input reads as it did. -/
def replaySeesSpec : ChangeSpec := { name := "replaySees", fn := fun _ => fun
  | [d1, d2] => { results := [.lit (.bool true)], args := [d1, d2] }
  | _ => none }
def replaySeesRow : OpenClaim := { program := "ytligpakpgifkdaa", sum := "a62ddaf47ce2e8a366f713c166884661be3d7b995a238278f3687301c90e29e3", func := "vizard/vizardlaw07.ReplaySees", spec := "replaySees", apart := false }
def ReplaySeesSaid : Prop := replaySeesRow.holds Try.pinned (OpenSpec.ofChange replaySeesSpec)

/-- ITS FALSE NEIGHBOUR: 'it returns false'. Refute it at one input. -/
def replaySeesWrong : ChangeSpec := { name := "replaySees", fn := fun _ => fun
  | [d1, d2] => { results := [.lit (.bool false)], args := [d1, d2] }
  | _ => none }
def ReplaySeesWrongFalsely : Prop := replaySeesRow.holds Try.pinned (OpenSpec.ofChange replaySeesWrong)

/-- 'vizardlaw07.ReplayBack': WHATEVER THE INPUT: true; the input reads as it did. -/
def replayBackSpec : ChangeSpec := { name := "replayBack", fn := fun _ => fun
  | [d1, d2] => { results := [.lit (.bool true)], args := [d1, d2] }
  | _ => none }
def replayBackRow : OpenClaim := { program := "ytligpakpgifkdaa", sum := "a62ddaf47ce2e8a366f713c166884661be3d7b995a238278f3687301c90e29e3", func := "vizard/vizardlaw07.ReplayBack", spec := "replayBack", apart := false }
def ReplayBackSaid : Prop := replayBackRow.holds Try.pinned (OpenSpec.ofChange replayBackSpec)

/-- ITS FALSE NEIGHBOUR: 'it returns false'. Refute it at one input. -/
def replayBackWrong : ChangeSpec := { name := "replayBack", fn := fun _ => fun
  | [d1, d2] => { results := [.lit (.bool false)], args := [d1, d2] }
  | _ => none }
def ReplayBackWrongFalsely : Prop := replayBackRow.holds Try.pinned (OpenSpec.ofChange replayBackWrong)

/- THE SECOND FORM. 'bulk': how many values and letters a reading holds, each counted each time it is reached (what is shared counts as often as it is met; a slice's spare places count too). A statement '..UptoSaid' is the law's where the arguments, and the package variables that the reading takes, are together of bulk at most 1048576: NARROWER than '..Said'. Prove '..Said' where nothing that the law and all that it calls make is longer than what came in: it says more and counts as full. Else prove '..UptoSaid'. A law counts once. -/
mutual
def uptoBulk {H : Type} : DataW H → Nat
  | .lit (.string bytes) => bytes.length + 1
  | .lit _ => 1
  | .nil => 1
  | .ptr d => uptoBulk d + 1
  | .slice elems spare => uptoBulkAll elems + uptoBulkAll spare + 1
  | .agg parts => uptoBulkAll parts + 1
  | .iface _ d => uptoBulk d + 1
  | .map entries => uptoBulkEntries entries + 1
  | .held _ => 1
def uptoBulkAll {H : Type} : List (DataW H) → Nat
  | [] => 0
  | d :: r => uptoBulk d + uptoBulkAll r
def uptoBulkEntries {H : Type} : List (Lit × DataW H) → Nat
  | [] => 0
  | x :: r => uptoBulkEntry x + uptoBulkEntries r
def uptoBulkEntry {H : Type} : Lit × DataW H → Nat
  | (.string bytes, d) => bytes.length + uptoBulk d + 1
  | (_, d) => uptoBulk d + 1
 end
def uptoSmall : (H : Type) → List (DataW H) → Bool := fun _ ds => decide (uptoBulkAll ds ≤ 1048576)
def OpenSpec.upto (s : _root_.Go.ChangeSpec) : _root_.Go.OpenSpec := { _root_.Go.OpenSpec.ofChange s with cond := some uptoSmall }

/-- 'vizardlaw07.ReplayOnce', WHERE WHAT IT READS IS OF BULK AT MOST 1048576: true; the input reads as it did. -/
def replayOnceUptoRow : OpenClaim := { program := "ytligpakpgifkdaa", sum := "a62ddaf47ce2e8a366f713c166884661be3d7b995a238278f3687301c90e29e3", func := "vizard/vizardlaw07.ReplayOnce", spec := "replayOnce", apart := false, narrowed := true }
def ReplayOnceUptoSaid : Prop := replayOnceUptoRow.holds Try.pinned (OpenSpec.upto replayOnceSpec)

/-- 'vizardlaw07.ReplayRises', WHERE WHAT IT READS IS OF BULK AT MOST 1048576: true; the input reads as it did. -/
def replayRisesUptoRow : OpenClaim := { program := "ytligpakpgifkdaa", sum := "a62ddaf47ce2e8a366f713c166884661be3d7b995a238278f3687301c90e29e3", func := "vizard/vizardlaw07.ReplayRises", spec := "replayRises", apart := false, narrowed := true }
def ReplayRisesUptoSaid : Prop := replayRisesUptoRow.holds Try.pinned (OpenSpec.upto replayRisesSpec)

/-- 'vizardlaw07.ReplaySees', WHERE WHAT IT READS IS OF BULK AT MOST 1048576: true; the input reads as it did. -/
def replaySeesUptoRow : OpenClaim := { program := "ytligpakpgifkdaa", sum := "a62ddaf47ce2e8a366f713c166884661be3d7b995a238278f3687301c90e29e3", func := "vizard/vizardlaw07.ReplaySees", spec := "replaySees", apart := false, narrowed := true }
def ReplaySeesUptoSaid : Prop := replaySeesUptoRow.holds Try.pinned (OpenSpec.upto replaySeesSpec)

/-- 'vizardlaw07.ReplayBack', WHERE WHAT IT READS IS OF BULK AT MOST 1048576: true; the input reads as it did. -/
def replayBackUptoRow : OpenClaim := { program := "ytligpakpgifkdaa", sum := "a62ddaf47ce2e8a366f713c166884661be3d7b995a238278f3687301c90e29e3", func := "vizard/vizardlaw07.ReplayBack", spec := "replayBack", apart := false, narrowed := true }
def ReplayBackUptoSaid : Prop := replayBackUptoRow.holds Try.pinned (OpenSpec.upto replayBackSpec)

end Rows
end Go.Proofs.Ytligpakpgifkdaa
