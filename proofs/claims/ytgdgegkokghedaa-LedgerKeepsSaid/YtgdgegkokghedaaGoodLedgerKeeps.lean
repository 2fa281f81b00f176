/- What the row of LedgerKeeps gives of its arguments. -/
import Derived.Test.YtgdgegkokghedaaRows
import Derived.Test.YtgdgegkokghedaaOpen
import Derived.Test.YtgdgegkokghedaaPLedgerKeepsx
namespace Go.Proofs.Ytgdgegkokghedaa.PLedgerKeeps
open Go.RowKit Go.Proofs.YtgdgegkokghedaaW.PrintWords Go.Proofs.Ytgdgegkokghedaa.Opening
set_option linter.unusedVariables false
def good34 (x : S34) : Prop := (Lit.int .i64 x.f0).wf = true ∧ (Lit.int .i64 x.f1).wf = true
def bulk34 (x : S34) : Nat := (1 + 1) + 1
theorem opens34 : Opens Try.prog k34 34 good34 bulk34 := by
  have h := opens_struct (t := 34) (fun x : S34 => (x.f0, x.f1)) (fun y => ⟨y.1, y.2⟩) (fun _ => rfl) Try.underlying34 (sz := (1 + 1)) (by kernel_rfl) (opens_cons (by kernel_rfl) (s1 := 1) (by kernel_rfl) (opens_int Try.underlying2) (opens_one (sz := 1) (by kernel_rfl) (by kernel_rfl) (opens_int Try.underlying2)))
  exact h
theorem opensL35 : Opens Try.prog (Kd.slice 34 k34) 35 (fun x => (x.length * 16 ≤ 140737488351232 ∧ ∀ y ∈ x, good34 y)) (fun x => ((x.map fun y => bulk34 y).sum + 1)) := by
  have h := opens_slice Try.underlying35 (d := k34) (by kernel_rfl) opens34
  rw [show Try.prog.bytesOf 34 = 16 from by kernel_rfl] at h
  exact h
def good42 (x : S42) : Prop := (Lit.int .i64 x.f0).wf = true ∧ (Lit.int .i64 x.f1).wf = true ∧ (Lit.int .i64 x.f2).wf = true ∧ (Lit.int .i64 x.f3).wf = true ∧ (x.f4.length * 16 ≤ 140737488351232 ∧ ∀ y ∈ x.f4, good34 y)
def bulk42 (x : S42) : Nat := (1 + (1 + (1 + (1 + ((x.f4.map fun y => bulk34 y).sum + 1))))) + 1
theorem opens42 : Opens Try.prog k42 42 good42 bulk42 := by
  have h := opens_struct (t := 42) (fun x : S42 => (x.f0, x.f1, x.f2, x.f3, x.f4)) (fun y => ⟨y.1, y.2.1, y.2.2.1, y.2.2.2.1, y.2.2.2.2⟩) (fun _ => rfl) Try.underlying42 (sz := (1 + (1 + (1 + (1 + 1))))) (by kernel_rfl) (opens_cons (by kernel_rfl) (s1 := 1) (by kernel_rfl) (opens_int Try.underlying3) (opens_cons (by kernel_rfl) (s1 := 1) (by kernel_rfl) (opens_int Try.underlying2) (opens_cons (by kernel_rfl) (s1 := 1) (by kernel_rfl) (opens_int Try.underlying2) (opens_cons (by kernel_rfl) (s1 := 1) (by kernel_rfl) (opens_int Try.underlying3) (opens_one (sz := 1) (by kernel_rfl) (by kernel_rfl) opensL35)))))
  exact h
theorem opensL38 : Opens Try.prog (Kd.slice 42 k42) 38 (fun x => (x.length * 56 ≤ 140737488351232 ∧ ∀ y ∈ x, good42 y)) (fun x => ((x.map fun y => bulk42 y).sum + 1)) := by
  have h := opens_slice Try.underlying38 (d := k42) (by kernel_rfl) opens42
  rw [show Try.prog.bytesOf 42 = 56 from by kernel_rfl] at h
  exact h
end Go.Proofs.Ytgdgegkokghedaa.PLedgerKeeps
