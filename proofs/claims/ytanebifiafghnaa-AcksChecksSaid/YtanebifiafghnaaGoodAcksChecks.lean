/- What the row of AcksChecks gives of its arguments; its pure statement. -/
import Derived.Test.YtanebifiafghnaaRows
import Derived.Test.YtanebifiafghnaaOpen
import Derived.Test.YtanebifiafghnaaPAcksChecksx4
namespace Go.Proofs.Ytanebifiafghnaa.PAcksChecks
open Go.RowKit Go.Proofs.YtanebifiafghnaaW.PrintWords Go.Proofs.Ytanebifiafghnaa.Opening
set_option linter.unusedVariables false
def good35 (x : S35) : Prop := (Lit.int .i64 x.f0).wf = true ∧ (Lit.int .i64 x.f1).wf = true
def bulk35 (x : S35) : Nat := (1 + 1) + 1
theorem opens35 : Opens Try.prog k35 35 good35 bulk35 := by
  have h := opens_struct (t := 35) (fun x : S35 => (x.f0, x.f1)) (fun y => ⟨y.1, y.2⟩) (fun _ => rfl) Try.underlying35 (sz := (1 + 1)) (by kernel_rfl) (opens_cons (by kernel_rfl) (s1 := 1) (by kernel_rfl) (opens_int Try.underlying2) (opens_one (sz := 1) (by kernel_rfl) (by kernel_rfl) (opens_int Try.underlying2)))
  exact h
theorem opensL22 : Opens Try.prog (Kd.slice 35 k35) 22 (fun x => (x.length * 16 ≤ 140737488351232 ∧ ∀ y ∈ x, good35 y)) (fun x => ((x.map fun y => bulk35 y).sum + 1)) := by
  have h := opens_slice Try.underlying22 (d := k35) (by kernel_rfl) opens35
  rw [show Try.prog.bytesOf 35 = 16 from by kernel_rfl] at h
  exact h
/-- THE PURE STATEMENT of AcksChecks. -/
def Law.Pure : Prop := ∀ (x0 : List S35), (x0.length * 16 ≤ 140737488351232 ∧ ∀ y ∈ x0, good35 y) → ∃ k, vizardlaw08_AcksChecks.f k x0 = some true
end Go.Proofs.Ytanebifiafghnaa.PAcksChecks
