/- What the row of UdpWithin gives of its arguments; its pure statement. -/
import Derived.Test.YtmgepidjeddapaaRows
import Derived.Test.YtmgepidjeddapaaOpen
import Derived.Test.YtmgepidjeddapaaPUdpWithinx3
namespace Go.Proofs.Ytmgepidjeddapaa.PUdpWithin
open Go.RowKit Go.Proofs.YtmgepidjeddapaaW.PrintWords Go.Proofs.Ytmgepidjeddapaa.Opening
set_option linter.unusedVariables false
structure S24 where
  f0 : Int
  f1 : Int
  f2 : Int
  f3 : Int
  f4 : ByteArray
def k24 : Kd S24 := Kd.iso (Kd.pair (Kd.int .u32) (Kd.pair (Kd.int .u32) (Kd.pair (Kd.int .i64) (Kd.pair (Kd.int .i64) Kd.string)))) (fun x : S24 => (x.f0, x.f1, x.f2, x.f3, x.f4))
theorem k24_open {w : World} {x : S24} {cs : List Value} (h : k24.K w x cs) : cs = [.int .u32 x.f0, .int .u32 x.f1, .int .i64 x.f2, .int .i64 x.f3, .string x.f4] := by
  obtain ⟨_, _, rfl, rfl, ⟨_, _, rfl, rfl, ⟨_, _, rfl, rfl, ⟨_, _, rfl, rfl, rfl⟩⟩⟩⟩ := h
  exact rfl
def good24 (x : S24) : Prop := (Lit.int .u32 x.f0).wf = true ∧ (Lit.int .u32 x.f1).wf = true ∧ (Lit.int .i64 x.f2).wf = true ∧ (Lit.int .i64 x.f3).wf = true ∧ x.f4.size ≤ 140737488351232
def bulk24 (x : S24) : Nat := (1 + (1 + (1 + (1 + (x.f4.size + 1))))) + 1
theorem opens24 : Opens Try.prog k24 24 good24 bulk24 := by
  have h := opens_struct (t := 24) (fun x : S24 => (x.f0, x.f1, x.f2, x.f3, x.f4)) (fun y => ⟨y.1, y.2.1, y.2.2.1, y.2.2.2.1, y.2.2.2.2⟩) (fun _ => rfl) Try.underlying24 (sz := (1 + (1 + (1 + (1 + 1))))) (by kernel_rfl) (opens_cons (by kernel_rfl) (s1 := 1) (by kernel_rfl) (opens_int Try.underlying22) (opens_cons (by kernel_rfl) (s1 := 1) (by kernel_rfl) (opens_int Try.underlying22) (opens_cons (by kernel_rfl) (s1 := 1) (by kernel_rfl) (opens_int Try.underlying3) (opens_cons (by kernel_rfl) (s1 := 1) (by kernel_rfl) (opens_int Try.underlying3) (opens_one (sz := 1) (by kernel_rfl) (by kernel_rfl) (opens_string Try.underlying9))))))
  exact h
/-- THE PURE STATEMENT of UdpWithin. -/
def Law.Pure : Prop := ∀ (x0 : S24) (x1 : Int), good24 x0 → (Lit.int .i64 x1).wf = true → ∃ k, vizardlaw03_UdpWithin.f k x0.f0 x0.f1 x0.f2 x0.f3 x0.f4 x1 = some true
end Go.Proofs.Ytmgepidjeddapaa.PUdpWithin
