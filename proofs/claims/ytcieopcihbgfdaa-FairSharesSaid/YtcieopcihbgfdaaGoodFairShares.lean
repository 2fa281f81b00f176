/- What the row of FairShares gives of its arguments. -/
import Derived.Test.YtcieopcihbgfdaaRows
import Derived.Test.YtcieopcihbgfdaaOpen
import Derived.Test.YtcieopcihbgfdaaWMore
namespace Go.Proofs.Ytcieopcihbgfdaa.PFairDoes
open Go.RowKit Go.Proofs.YtcieopcihbgfdaaW.PrintWords Go.Proofs.Ytcieopcihbgfdaa.Opening
set_option linter.unusedVariables false
theorem opensL22 : Opens Try.prog (Kd.slice 3 (Kd.int .i64)) 22 (fun x => (x.length * 8 ≤ 140737488351232 ∧ ∀ y ∈ x, (Lit.int .i64 y).wf = true)) (fun x => ((x.map fun y => 1).sum + 1)) := by
  have h := opens_slice Try.underlying22 (d := (Kd.int .i64)) (by kernel_rfl) (opens_int Try.underlying3)
  rw [show Try.prog.bytesOf 3 = 8 from by kernel_rfl] at h
  exact h
end Go.Proofs.Ytcieopcihbgfdaa.PFairDoes
