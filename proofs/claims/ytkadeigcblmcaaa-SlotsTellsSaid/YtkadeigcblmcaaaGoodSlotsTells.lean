/- What the row of SlotsTells gives of its arguments; its pure statement. -/
import Derived.Test.YtkadeigcblmcaaaRows
import Derived.Test.YtkadeigcblmcaaaOpen
import Derived.Test.YtkadeigcblmcaaaPSlotsTellsx2
namespace Go.Proofs.Ytkadeigcblmcaaa.PSlotsTells
open Go.RowKit Go.Proofs.YtkadeigcblmcaaaW.PrintWords Go.Proofs.Ytkadeigcblmcaaa.Opening
set_option linter.unusedVariables false
theorem opensL22 : Opens Try.prog (Kd.slice 3 (Kd.int .i64)) 22 (fun x => (x.length * 8 ≤ 140737488351232 ∧ ∀ y ∈ x, (Lit.int .i64 y).wf = true)) (fun x => ((x.map fun y => 1).sum + 1)) := by
  have h := opens_slice Try.underlying22 (d := (Kd.int .i64)) (by kernel_rfl) (opens_int Try.underlying3)
  rw [show Try.prog.bytesOf 3 = 8 from by kernel_rfl] at h
  exact h
/-- THE PURE STATEMENT of SlotsTells. -/
def Law.Pure : Prop := ∀ (x0 : List Int) (x1 : Int) (x2 : Int) (x3 : Int), (x0.length * 8 ≤ 140737488351232 ∧ ∀ y ∈ x0, (Lit.int .i64 y).wf = true) → (Lit.int .i64 x1).wf = true → (Lit.int .i64 x2).wf = true → (Lit.int .i64 x3).wf = true → ∃ k, vizardlaw21_SlotsTells.f k x0 x1 x2 x3 = some true
end Go.Proofs.Ytkadeigcblmcaaa.PSlotsTells
