/- What the row of FairAlone gives of its arguments. -/
import Derived.Test.YtcieopcihbgfdaaRows
import Derived.Test.YtcieopcihbgfdaaOpen
import Derived.Test.YtcieopcihbgfdaaWMore
namespace Go.Proofs.Ytcieopcihbgfdaa.PFairDoes
open Go.RowKit Go.Proofs.YtcieopcihbgfdaaW.PrintWords Go.Proofs.Ytcieopcihbgfdaa.Opening
set_option linter.unusedVariables false
theorem opensL34 : Opens Try.prog (Kd.slice 9 Kd.string) 34 (fun x => (x.length * 16 ≤ 140737488351232 ∧ ∀ y ∈ x, y.size ≤ 140737488351232)) (fun x => ((x.map fun y => (y.size + 1)).sum + 1)) := by
  have h := opens_slice Try.underlying34 (d := Kd.string) (by kernel_rfl) (opens_string Try.underlying9)
  rw [show Try.prog.bytesOf 9 = 16 from by kernel_rfl] at h
  exact h
end Go.Proofs.Ytcieopcihbgfdaa.PFairDoes
