/- What the row of ReplayBack gives of its arguments. -/
import Derived.Test.YtligpakpgifkdaaRows
import Derived.Test.YtligpakpgifkdaaOpen
import Derived.Test.YtligpakpgifkdaaWMore
namespace Go.Proofs.Ytligpakpgifkdaa.PReplayBack
open Go.RowKit Go.Proofs.YtligpakpgifkdaaW.PrintWords Go.Proofs.Ytligpakpgifkdaa.Opening
set_option linter.unusedVariables false
theorem opensL37 : Opens Try.prog (Kd.slice 3 (Kd.int .i64)) 37 (fun x => (x.length * 8 ≤ 140737488351232 ∧ ∀ y ∈ x, (Lit.int .i64 y).wf = true)) (fun x => ((x.map fun y => 1).sum + 1)) := by
  have h := opens_slice Try.underlying37 (d := (Kd.int .i64)) (by kernel_rfl) (opens_int Try.underlying3)
  rw [show Try.prog.bytesOf 3 = 8 from by kernel_rfl] at h
  exact h
end Go.Proofs.Ytligpakpgifkdaa.PReplayBack
