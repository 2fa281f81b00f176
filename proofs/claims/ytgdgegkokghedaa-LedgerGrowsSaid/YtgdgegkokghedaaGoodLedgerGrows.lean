/- What the row of LedgerGrows gives of its arguments. -/
import Derived.Test.YtgdgegkokghedaaRows
import Derived.Test.YtgdgegkokghedaaOpen
import Derived.Test.YtgdgegkokghedaaPLedgerGrowsx
namespace Go.Proofs.Ytgdgegkokghedaa.PLedgerGrows
open Go.RowKit Go.Proofs.YtgdgegkokghedaaW.PrintWords Go.Proofs.Ytgdgegkokghedaa.Opening
set_option linter.unusedVariables false
theorem opensL22 : Opens Try.prog (Kd.slice 3 (Kd.int .i64)) 22 (fun x => (x.length * 8 ≤ 140737488351232 ∧ ∀ y ∈ x, (Lit.int .i64 y).wf = true)) (fun x => ((x.map fun y => 1).sum + 1)) := by
  have h := opens_slice Try.underlying22 (d := (Kd.int .i64)) (by kernel_rfl) (opens_int Try.underlying3)
  rw [show Try.prog.bytesOf 3 = 8 from by kernel_rfl] at h
  exact h
end Go.Proofs.Ytgdgegkokghedaa.PLedgerGrows
