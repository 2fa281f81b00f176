/- What the row of H3Cuts gives of its arguments. -/
import Derived.Test.YtnnmdocdiedgiaaDoorRows
import Derived.Test.YtnnmdocdiedgiaaDoorOpen
import Derived.Test.YtnnmdocdiedgiaaDoorWMore
namespace Go.Proofs.YtnnmdocdiedgiaaDoor.PH3Cuts
open Go.RowKit Go.Proofs.YtnnmdocdiedgiaaDoorW.PrintWords Go.Proofs.YtnnmdocdiedgiaaDoor.Opening
set_option linter.unusedVariables false
theorem opensL29 : Opens Tryd.prog (Kd.slice 3 (Kd.int .i64)) 29 (fun x => (x.length * 8 ≤ 140737488351232 ∧ ∀ y ∈ x, (Lit.int .i64 y).wf = true)) (fun x => ((x.map fun y => 1).sum + 1)) := by
  have h := opens_slice Tryd.underlying29 (d := (Kd.int .i64)) (by kernel_rfl) (opens_int Tryd.underlying3)
  rw [show Tryd.prog.bytesOf 3 = 8 from by kernel_rfl] at h
  exact h
end Go.Proofs.YtnnmdocdiedgiaaDoor.PH3Cuts
