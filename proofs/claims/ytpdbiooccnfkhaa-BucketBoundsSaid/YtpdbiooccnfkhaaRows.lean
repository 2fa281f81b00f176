/-
  No cell of these rows narrows 'for every input' (looked for: loops, veiled, ifaces, maps, wideKeys, modest, calm, conditions, laid).
  DERIVED. THE GIVEN ROWS OF THIS SEAT. 3 by the template 'for every input the law returns true; each argument reads behind the call as it read before'; 0 by the template 'total and deterministic' (their statements: YtpdbiooccnfkhaaTotals.lean).
  GIVEN WITH THE SEED: the statements are not yours to turn. If you find one false, say at which input.
  Laid BY PROGRAM, IN A SANDBOX (cutbox-rows.mjs): the forced cells as the released guide's own fill.sh prints them over the translation f377d75cc1f0b095… (all of the seat's roots in one cut). By AI agents, Wed Nov 11 2026. No macro, syntax, notation, axiom, sorry.
-/
import Derived.Test.YtpdbiooccnfkhaaChecked
import GoSem.Claim
import GoSem.ClaimJoined
import GoSem.ClaimMapViews
import Derived.JoinedTies
import Derived.KernelRfl
namespace Go.Proofs.Ytpdbiooccnfkhaa
/- THE CELL 'sum', in the pinned program and in every row, IS THE sha256 OF THE DUMP (.gsa) THAT YtpdbiooccnfkhaaProg.lean LOADS. Nothing in Lean hashes anything: it is a label: what it is worth is what the hold of that sum in a sandbox is worth. -/
noncomputable def Try.pinned : Pinned := { name := "ytpdbiooccnfkhaa", sum := "f377d75cc1f0b095538228f899e6ba6f2ea1345d8f4e6dd75cf44bbc3528e612", checked := Try.checked }
namespace Rows
def none {H : Type} : Left H := { results := [], args := [] }

/-- 'vizardlaw19.BucketBounds': WHATEVER THE INPUT: true; the input reads as it did. -/
def bucketBoundsSpec : ChangeSpec := { name := "bucketBounds", fn := fun _ => fun
  | [d1, d2, d3] => { results := [.lit (.bool true)], args := [d1, d2, d3] }
  | _ => none }
def bucketBoundsRow : OpenClaim := { program := "ytpdbiooccnfkhaa", sum := "f377d75cc1f0b095538228f899e6ba6f2ea1345d8f4e6dd75cf44bbc3528e612", func := "vizard/vizardlaw19.BucketBounds", spec := "bucketBounds", inPlace := ["sync/atomic.StoreInt64", "sync/atomic.LoadInt64", "sync/atomic.AddInt64", "sync/atomic.CompareAndSwapInt64"], apart := false }
def BucketBoundsSaid : Prop := bucketBoundsRow.holds Try.pinned (OpenSpec.ofChange bucketBoundsSpec)

/-- ITS FALSE NEIGHBOUR: 'it returns false'. Refute it at one input. -/
def bucketBoundsWrong : ChangeSpec := { name := "bucketBounds", fn := fun _ => fun
  | [d1, d2, d3] => { results := [.lit (.bool false)], args := [d1, d2, d3] }
  | _ => none }
def BucketBoundsWrongFalsely : Prop := bucketBoundsRow.holds Try.pinned (OpenSpec.ofChange bucketBoundsWrong)

/-- 'vizardlaw19.BucketTicks': WHATEVER THE INPUT: true; the input reads as it did. -/
def bucketTicksSpec : ChangeSpec := { name := "bucketTicks", fn := fun _ => fun
  | [d1, d2, d3, d4] => { results := [.lit (.bool true)], args := [d1, d2, d3, d4] }
  | _ => none }
def bucketTicksRow : OpenClaim := { program := "ytpdbiooccnfkhaa", sum := "f377d75cc1f0b095538228f899e6ba6f2ea1345d8f4e6dd75cf44bbc3528e612", func := "vizard/vizardlaw19.BucketTicks", spec := "bucketTicks", inPlace := ["sync/atomic.StoreInt64", "sync/atomic.LoadInt64", "sync/atomic.AddInt64", "sync/atomic.CompareAndSwapInt64"], apart := false }
def BucketTicksSaid : Prop := bucketTicksRow.holds Try.pinned (OpenSpec.ofChange bucketTicksSpec)

/-- ITS FALSE NEIGHBOUR: 'it returns false'. Refute it at one input. -/
def bucketTicksWrong : ChangeSpec := { name := "bucketTicks", fn := fun _ => fun
  | [d1, d2, d3, d4] => { results := [.lit (.bool false)], args := [d1, d2, d3, d4] }
  | _ => none }
def BucketTicksWrongFalsely : Prop := bucketTicksRow.holds Try.pinned (OpenSpec.ofChange bucketTicksWrong)

/-- 'vizardlaw19.BucketDoes': WHATEVER THE INPUT: true; the input reads as it did. -/
def bucketDoesSpec : ChangeSpec := { name := "bucketDoes", fn := fun _ => fun
  | [d1, d2, d3] => { results := [.lit (.bool true)], args := [d1, d2, d3] }
  | _ => none }
def bucketDoesRow : OpenClaim := { program := "ytpdbiooccnfkhaa", sum := "f377d75cc1f0b095538228f899e6ba6f2ea1345d8f4e6dd75cf44bbc3528e612", func := "vizard/vizardlaw19.BucketDoes", spec := "bucketDoes", inPlace := ["sync/atomic.StoreInt64", "sync/atomic.LoadInt64", "sync/atomic.CompareAndSwapInt64", "sync/atomic.AddInt64"], apart := false }
def BucketDoesSaid : Prop := bucketDoesRow.holds Try.pinned (OpenSpec.ofChange bucketDoesSpec)

/-- ITS FALSE NEIGHBOUR: 'it returns false'. Refute it at one input. -/
def bucketDoesWrong : ChangeSpec := { name := "bucketDoes", fn := fun _ => fun
  | [d1, d2, d3] => { results := [.lit (.bool false)], args := [d1, d2, d3] }
  | _ => none }
def BucketDoesWrongFalsely : Prop := bucketDoesRow.holds Try.pinned (OpenSpec.ofChange bucketDoesWrong)

/- THE SECOND FORM. 'bulk': how many values and letters a reading holds, each counted each time it is reached (what is shared counts as often as it is met; a slice's spare places count too). A statement '..UptoSaid' is the law's where the arguments, and the package variables that the reading takes, are together of bulk at most 1048576: NARROWER than '..Said'. Prove '..Said' where nothing that the law and all that it calls make is longer than what came in: it says more and counts as full. Else prove '..UptoSaid'. A law counts once. -/
mutual
def uptoBulk {H : Type} : DataW H → Nat
  | .lit (.string bytes) => bytes.length + 1
  | .lit _ => 1
  | .nil => 1
  | .ptr d => uptoBulk d + 1
  | .slice elems spare => uptoBulkAll elems + uptoBulkAll spare + 1
  | .agg parts => uptoBulkAll parts + 1
  | .iface _ d => uptoBulk d + 1
  | .map entries => uptoBulkEntries entries + 1
  | .held _ => 1
def uptoBulkAll {H : Type} : List (DataW H) → Nat
  | [] => 0
  | d :: r => uptoBulk d + uptoBulkAll r
def uptoBulkEntries {H : Type} : List (Lit × DataW H) → Nat
  | [] => 0
  | x :: r => uptoBulkEntry x + uptoBulkEntries r
def uptoBulkEntry {H : Type} : Lit × DataW H → Nat
  | (.string bytes, d) => bytes.length + uptoBulk d + 1
  | (_, d) => uptoBulk d + 1
 end
def uptoSmall : (H : Type) → List (DataW H) → Bool := fun _ ds => decide (uptoBulkAll ds ≤ 1048576)
def OpenSpec.upto (s : _root_.Go.ChangeSpec) : _root_.Go.OpenSpec := { _root_.Go.OpenSpec.ofChange s with cond := some uptoSmall }

/-- 'vizardlaw19.BucketBounds', WHERE WHAT IT READS IS OF BULK AT MOST 1048576: true; the input reads as it did. -/
def bucketBoundsUptoRow : OpenClaim := { program := "ytpdbiooccnfkhaa", sum := "f377d75cc1f0b095538228f899e6ba6f2ea1345d8f4e6dd75cf44bbc3528e612", func := "vizard/vizardlaw19.BucketBounds", spec := "bucketBounds", inPlace := ["sync/atomic.StoreInt64", "sync/atomic.LoadInt64", "sync/atomic.AddInt64", "sync/atomic.CompareAndSwapInt64"], apart := false, narrowed := true }
def BucketBoundsUptoSaid : Prop := bucketBoundsUptoRow.holds Try.pinned (OpenSpec.upto bucketBoundsSpec)

/-- 'vizardlaw19.BucketTicks', WHERE WHAT IT READS IS OF BULK AT MOST 1048576: true; the input reads as it did. -/
def bucketTicksUptoRow : OpenClaim := { program := "ytpdbiooccnfkhaa", sum := "f377d75cc1f0b095538228f899e6ba6f2ea1345d8f4e6dd75cf44bbc3528e612", func := "vizard/vizardlaw19.BucketTicks", spec := "bucketTicks", inPlace := ["sync/atomic.StoreInt64", "sync/atomic.LoadInt64", "sync/atomic.AddInt64", "sync/atomic.CompareAndSwapInt64"], apart := false, narrowed := true }
def BucketTicksUptoSaid : Prop := bucketTicksUptoRow.holds Try.pinned (OpenSpec.upto bucketTicksSpec)

/-- 'vizardlaw19.BucketDoes', WHERE WHAT IT READS IS OF BULK AT MOST 1048576: true; the input reads as it did. -/
def bucketDoesUptoRow : OpenClaim := { program := "ytpdbiooccnfkhaa", sum := "f377d75cc1f0b095538228f899e6ba6f2ea1345d8f4e6dd75cf44bbc3528e612", func := "vizard/vizardlaw19.BucketDoes", spec := "bucketDoes", inPlace := ["sync/atomic.StoreInt64", "sync/atomic.LoadInt64", "sync/atomic.CompareAndSwapInt64", "sync/atomic.AddInt64"], apart := false, narrowed := true }
def BucketDoesUptoSaid : Prop := bucketDoesUptoRow.holds Try.pinned (OpenSpec.upto bucketDoesSpec)

end Rows
end Go.Proofs.Ytpdbiooccnfkhaa
