/- What the row of AcksRight gives of its arguments. -/
import Derived.Test.YtanebifiafghnaaRows
import Derived.Test.YtanebifiafghnaaOpen
import Derived.Test.YtanebifiafghnaaPAcksRightx
namespace Go.Proofs.Ytanebifiafghnaa.PAcksRight
open Go.RowKit Go.Proofs.YtanebifiafghnaaW.PrintWords Go.Proofs.Ytanebifiafghnaa.Opening
set_option linter.unusedVariables false
theorem opensL27 : Opens Try.prog (Kd.slice 2 (Kd.int .i64)) 27 (fun x => (x.length * 8 ≤ 140737488351232 ∧ ∀ y ∈ x, (Lit.int .i64 y).wf = true)) (fun x => ((x.map fun y => 1).sum + 1)) := by
  have h := opens_slice Try.underlying27 (d := (Kd.int .i64)) (by kernel_rfl) (opens_int Try.underlying2)
  rw [show Try.prog.bytesOf 2 = 8 from by kernel_rfl] at h
  exact h
theorem opensL37 : Opens Try.prog (Kd.slice 3 (Kd.int .i64)) 37 (fun x => (x.length * 8 ≤ 140737488351232 ∧ ∀ y ∈ x, (Lit.int .i64 y).wf = true)) (fun x => ((x.map fun y => 1).sum + 1)) := by
  have h := opens_slice Try.underlying37 (d := (Kd.int .i64)) (by kernel_rfl) (opens_int Try.underlying3)
  rw [show Try.prog.bytesOf 3 = 8 from by kernel_rfl] at h
  exact h
end Go.Proofs.Ytanebifiafghnaa.PAcksRight
