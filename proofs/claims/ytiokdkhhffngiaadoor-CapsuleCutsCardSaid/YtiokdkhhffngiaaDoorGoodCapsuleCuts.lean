/- What the row of CapsuleCuts gives of its arguments. -/
import Derived.Test.YtiokdkhhffngiaaDoorRows
import Derived.Test.YtiokdkhhffngiaaDoorOpen
import Derived.Test.YtiokdkhhffngiaaDoorPCapsuleCutsx
namespace Go.Proofs.YtiokdkhhffngiaaDoor.PCapsuleCuts
open Go.RowKit Go.Proofs.YtiokdkhhffngiaaDoorW.PrintWords Go.Proofs.YtiokdkhhffngiaaDoor.Opening
set_option linter.unusedVariables false
theorem opensL22 : Opens Tryd.prog (Kd.slice 3 (Kd.int .i64)) 22 (fun x => (x.length * 8 ≤ 140737488351232 ∧ ∀ y ∈ x, (Lit.int .i64 y).wf = true)) (fun x => ((x.map fun y => 1).sum + 1)) := by
  have h := opens_slice Tryd.underlying22 (d := (Kd.int .i64)) (by kernel_rfl) (opens_int Tryd.underlying3)
  rw [show Tryd.prog.bytesOf 3 = 8 from by kernel_rfl] at h
  exact h
end Go.Proofs.YtiokdkhhffngiaaDoor.PCapsuleCuts
