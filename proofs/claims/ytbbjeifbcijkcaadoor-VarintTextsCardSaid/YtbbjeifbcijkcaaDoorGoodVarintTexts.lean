/- What the row of VarintTexts gives of its arguments; its pure statement. -/
import Derived.Test.YtbbjeifbcijkcaaDoorRows
import Derived.Test.YtbbjeifbcijkcaaDoorOpen
import Derived.Test.YtbbjeifbcijkcaaDoorPVarintTextsx2
namespace Go.Proofs.YtbbjeifbcijkcaaDoor.PVarintTexts
open Go.RowKit Go.Proofs.YtbbjeifbcijkcaaDoorW.PrintWords Go.Proofs.YtbbjeifbcijkcaaDoor.Opening
set_option linter.unusedVariables false
theorem opensL40 : Opens Tryd.prog (Kd.slice 9 Kd.string) 40 (fun x => (x.length * 16 ≤ 140737488351232 ∧ ∀ y ∈ x, y.size ≤ 140737488351232)) (fun x => ((x.map fun y => (y.size + 1)).sum + 1)) := by
  have h := opens_slice Tryd.underlying40 (d := Kd.string) (by kernel_rfl) (opens_string Tryd.underlying9)
  rw [show Tryd.prog.bytesOf 9 = 16 from by kernel_rfl] at h
  exact h
/-- THE PURE STATEMENT of VarintTexts. -/
def Law.Pure : Prop := ∀ (x0 : List ByteArray), (x0.length * 16 ≤ 140737488351232 ∧ ∀ y ∈ x0, y.size ≤ 140737488351232) → ∃ k, vizardlaw01_VarintTexts.f k x0 = some true
end Go.Proofs.YtbbjeifbcijkcaaDoor.PVarintTexts
