/- What the row of ReplaySees gives of its arguments. -/
import Derived.Test.YtligpakpgifkdaaRows
import Derived.Test.YtligpakpgifkdaaOpen
import Derived.Test.YtligpakpgifkdaaWMore
namespace Go.Proofs.Ytligpakpgifkdaa.PReplaySees
open Go.RowKit Go.Proofs.YtligpakpgifkdaaW.PrintWords Go.Proofs.Ytligpakpgifkdaa.Opening
set_option linter.unusedVariables false
theorem opensL22 : Opens Try.prog (Kd.slice 2 (Kd.int .i64)) 22 (fun x => (x.length * 8 ≤ 140737488351232 ∧ ∀ y ∈ x, (Lit.int .i64 y).wf = true)) (fun x => ((x.map fun y => 1).sum + 1)) := by
  have h := opens_slice Try.underlying22 (d := (Kd.int .i64)) (by kernel_rfl) (opens_int Try.underlying2)
  rw [show Try.prog.bytesOf 2 = 8 from by kernel_rfl] at h
  exact h
end Go.Proofs.Ytligpakpgifkdaa.PReplaySees
