/- What the row of AcksKeeps gives of its arguments. -/
import Derived.Test.YtanebifiafghnaaRows
import Derived.Test.YtanebifiafghnaaOpen
import Derived.Test.YtanebifiafghnaaPAcksRightx
namespace Go.Proofs.Ytanebifiafghnaa.PAcksRight
open Go.RowKit Go.Proofs.YtanebifiafghnaaW.PrintWords Go.Proofs.Ytanebifiafghnaa.Opening
set_option linter.unusedVariables false
structure S45 where
  f0 : Bool
  f1 : Int
  f2 : Int
def k45 : Kd S45 := Kd.iso (Kd.pair Kd.bool (Kd.pair (Kd.int .i64) (Kd.int .i64))) (fun x : S45 => (x.f0, x.f1, x.f2))
theorem k45_open {w : World} {x : S45} {cs : List Value} (h : k45.K w x cs) : cs = [.bool x.f0, .int .i64 x.f1, .int .i64 x.f2] := by
  obtain ⟨_, _, rfl, rfl, ⟨_, _, rfl, rfl, rfl⟩⟩ := h
  exact rfl
def good45 (x : S45) : Prop := True ∧ (Lit.int .i64 x.f1).wf = true ∧ (Lit.int .i64 x.f2).wf = true
def bulk45 (x : S45) : Nat := (1 + (1 + 1)) + 1
theorem opens45 : Opens Try.prog k45 45 good45 bulk45 := by
  have h := opens_struct (t := 45) (fun x : S45 => (x.f0, x.f1, x.f2)) (fun y => ⟨y.1, y.2.1, y.2.2⟩) (fun _ => rfl) Try.underlying45 (sz := (1 + (1 + 1))) (by kernel_rfl) (opens_cons (by kernel_rfl) (s1 := 1) (by kernel_rfl) (opens_bool Try.underlying4) (opens_cons (by kernel_rfl) (s1 := 1) (by kernel_rfl) (opens_int Try.underlying2) (opens_one (sz := 1) (by kernel_rfl) (by kernel_rfl) (opens_int Try.underlying2))))
  exact h
theorem opensL40 : Opens Try.prog (Kd.slice 45 k45) 40 (fun x => (x.length * 24 ≤ 140737488351232 ∧ ∀ y ∈ x, good45 y)) (fun x => ((x.map fun y => bulk45 y).sum + 1)) := by
  have h := opens_slice Try.underlying40 (d := k45) (by kernel_rfl) opens45
  rw [show Try.prog.bytesOf 45 = 24 from by kernel_rfl] at h
  exact h
theorem opensL27 : Opens Try.prog (Kd.slice 2 (Kd.int .i64)) 27 (fun x => (x.length * 8 ≤ 140737488351232 ∧ ∀ y ∈ x, (Lit.int .i64 y).wf = true)) (fun x => ((x.map fun y => 1).sum + 1)) := by
  have h := opens_slice Try.underlying27 (d := (Kd.int .i64)) (by kernel_rfl) (opens_int Try.underlying2)
  rw [show Try.prog.bytesOf 2 = 8 from by kernel_rfl] at h
  exact h
end Go.Proofs.Ytanebifiafghnaa.PAcksRight
