/- What the row of FairDoes gives of its arguments. -/
import Derived.Test.YtcieopcihbgfdaaRows
import Derived.Test.YtcieopcihbgfdaaOpen
import Derived.Test.YtcieopcihbgfdaaPFairDoesx
namespace Go.Proofs.Ytcieopcihbgfdaa.PFairDoes
open Go.RowKit Go.Proofs.YtcieopcihbgfdaaW.PrintWords Go.Proofs.Ytcieopcihbgfdaa.Opening
set_option linter.unusedVariables false
structure S41 where
  f0 : Int
  f1 : Int
  f2 : ByteArray
def k41 : Kd S41 := Kd.iso (Kd.pair (Kd.int .i64) (Kd.pair (Kd.int .i64) Kd.string)) (fun x : S41 => (x.f0, x.f1, x.f2))
theorem k41_open {w : World} {x : S41} {cs : List Value} (h : k41.K w x cs) : cs = [.int .i64 x.f0, .int .i64 x.f1, .string x.f2] := by
  obtain ⟨_, _, rfl, rfl, ⟨_, _, rfl, rfl, rfl⟩⟩ := h
  exact rfl
def good41 (x : S41) : Prop := (Lit.int .i64 x.f0).wf = true ∧ (Lit.int .i64 x.f1).wf = true ∧ x.f2.size ≤ 140737488351232
def bulk41 (x : S41) : Nat := (1 + (1 + (x.f2.size + 1))) + 1
theorem opens41 : Opens Try.prog k41 41 good41 bulk41 := by
  have h := opens_struct (t := 41) (fun x : S41 => (x.f0, x.f1, x.f2)) (fun y => ⟨y.1, y.2.1, y.2.2⟩) (fun _ => rfl) Try.underlying41 (sz := (1 + (1 + 1))) (by kernel_rfl) (opens_cons (by kernel_rfl) (s1 := 1) (by kernel_rfl) (opens_int Try.underlying3) (opens_cons (by kernel_rfl) (s1 := 1) (by kernel_rfl) (opens_int Try.underlying2) (opens_one (sz := 1) (by kernel_rfl) (by kernel_rfl) (opens_string Try.underlying9))))
  exact h
theorem opensL37 : Opens Try.prog (Kd.slice 41 k41) 37 (fun x => (x.length * 32 ≤ 140737488351232 ∧ ∀ y ∈ x, good41 y)) (fun x => ((x.map fun y => bulk41 y).sum + 1)) := by
  have h := opens_slice Try.underlying37 (d := k41) (by kernel_rfl) opens41
  rw [show Try.prog.bytesOf 41 = 32 from by kernel_rfl] at h
  exact h
end Go.Proofs.Ytcieopcihbgfdaa.PFairDoes
