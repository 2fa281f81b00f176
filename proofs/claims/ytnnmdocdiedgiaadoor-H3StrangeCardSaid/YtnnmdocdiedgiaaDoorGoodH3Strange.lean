/- What the row of H3Strange gives of its arguments. -/
import Derived.Test.YtnnmdocdiedgiaaDoorRows
import Derived.Test.YtnnmdocdiedgiaaDoorOpen
import Derived.Test.YtnnmdocdiedgiaaDoorWMore
namespace Go.Proofs.YtnnmdocdiedgiaaDoor.PH3Strange
open Go.RowKit Go.Proofs.YtnnmdocdiedgiaaDoorW.PrintWords Go.Proofs.YtnnmdocdiedgiaaDoor.Opening
set_option linter.unusedVariables false
theorem opensL44 : Opens Tryd.prog (Kd.slice 9 Kd.string) 44 (fun x => (x.length * 16 ≤ 140737488351232 ∧ ∀ y ∈ x, y.size ≤ 140737488351232)) (fun x => ((x.map fun y => (y.size + 1)).sum + 1)) := by
  have h := opens_slice Tryd.underlying44 (d := Kd.string) (by kernel_rfl) (opens_string Tryd.underlying9)
  rw [show Tryd.prog.bytesOf 9 = 16 from by kernel_rfl] at h
  exact h
end Go.Proofs.YtnnmdocdiedgiaaDoor.PH3Strange
