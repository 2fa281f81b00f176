/- What the row of FieldsWrites gives of its arguments. -/
import Derived.Test.YtoigojlemffikaaDoorRows
import Derived.Test.YtoigojlemffikaaDoorOpen
import Derived.Test.YtoigojlemffikaaDoorPFieldsx
namespace Go.Proofs.YtoigojlemffikaaDoor.PFields
open Go.RowKit Go.Proofs.YtoigojlemffikaaDoorW.PrintWords Go.Proofs.YtoigojlemffikaaDoor.Opening
set_option linter.unusedVariables false
def good27 (x : S27) : Prop := x.f0.size ≤ 140737488351232 ∧ x.f1.size ≤ 140737488351232
def bulk27 (x : S27) : Nat := ((x.f0.size + 1) + (x.f1.size + 1)) + 1
theorem opens27 : Opens Tryd.prog k27 27 good27 bulk27 := by
  have h := opens_struct (t := 27) (fun x : S27 => (x.f0, x.f1)) (fun y => ⟨y.1, y.2⟩) (fun _ => rfl) Tryd.underlying27 (sz := (1 + 1)) (by kernel_rfl) (opens_cons (by kernel_rfl) (s1 := 1) (by kernel_rfl) (opens_string Tryd.underlying9) (opens_one (sz := 1) (by kernel_rfl) (by kernel_rfl) (opens_string Tryd.underlying9)))
  exact h
theorem opensL22 : Opens Tryd.prog (Kd.slice 27 k27) 22 (fun x => (x.length * 32 ≤ 140737488351232 ∧ ∀ y ∈ x, good27 y)) (fun x => ((x.map fun y => bulk27 y).sum + 1)) := by
  have h := opens_slice Tryd.underlying22 (d := k27) (by kernel_rfl) opens27
  rw [show Tryd.prog.bytesOf 27 = 32 from by kernel_rfl] at h
  exact h
end Go.Proofs.YtoigojlemffikaaDoor.PFields
