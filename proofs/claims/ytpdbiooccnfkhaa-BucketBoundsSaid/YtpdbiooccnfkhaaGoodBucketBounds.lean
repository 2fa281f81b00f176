/- What the row of BucketBounds gives of its arguments. -/
import Derived.Test.YtpdbiooccnfkhaaRows
import Derived.Test.YtpdbiooccnfkhaaOpen
import Derived.Test.YtpdbiooccnfkhaaWMore
namespace Go.Proofs.Ytpdbiooccnfkhaa.PBucketBounds
open Go.RowKit Go.Proofs.YtpdbiooccnfkhaaW.PrintWords Go.Proofs.Ytpdbiooccnfkhaa.Opening
set_option linter.unusedVariables false
structure S28 where
  f0 : Bool
  f1 : Int
def k28 : Kd S28 := Kd.iso (Kd.pair Kd.bool (Kd.int .i64)) (fun x : S28 => (x.f0, x.f1))
theorem k28_open {w : World} {x : S28} {cs : List Value} (h : k28.K w x cs) : cs = [.bool x.f0, .int .i64 x.f1] := by
  obtain ⟨_, _, rfl, rfl, rfl⟩ := h
  exact rfl
def good28 (x : S28) : Prop := True ∧ (Lit.int .i64 x.f1).wf = true
def bulk28 (x : S28) : Nat := (1 + 1) + 1
theorem opens28 : Opens Try.prog k28 28 good28 bulk28 := by
  have h := opens_struct (t := 28) (fun x : S28 => (x.f0, x.f1)) (fun y => ⟨y.1, y.2⟩) (fun _ => rfl) Try.underlying28 (sz := (1 + 1)) (by kernel_rfl) (opens_cons (by kernel_rfl) (s1 := 1) (by kernel_rfl) (opens_bool Try.underlying4) (opens_one (sz := 1) (by kernel_rfl) (by kernel_rfl) (opens_int Try.underlying3)))
  exact h
theorem opensL22 : Opens Try.prog (Kd.slice 28 k28) 22 (fun x => (x.length * 16 ≤ 140737488351232 ∧ ∀ y ∈ x, good28 y)) (fun x => ((x.map fun y => bulk28 y).sum + 1)) := by
  have h := opens_slice Try.underlying22 (d := k28) (by kernel_rfl) opens28
  rw [show Try.prog.bytesOf 28 = 16 from by kernel_rfl] at h
  exact h
end Go.Proofs.Ytpdbiooccnfkhaa.PBucketBounds
