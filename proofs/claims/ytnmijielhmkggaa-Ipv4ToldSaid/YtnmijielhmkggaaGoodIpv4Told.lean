/- What the row of Ipv4Told gives of its arguments. -/
import Derived.Test.YtnmijielhmkggaaRows
import Derived.Test.YtnmijielhmkggaaOpen
import Derived.Test.YtnmijielhmkggaaPIpv4Toldx
namespace Go.Proofs.Ytnmijielhmkggaa.PIpv4Told
open Go.RowKit Go.Proofs.YtnmijielhmkggaaW.PrintWords Go.Proofs.Ytnmijielhmkggaa.Opening
set_option linter.unusedVariables false
def good24 (x : S24) : Prop := (Lit.int .i64 x.f0).wf = true ∧ (Lit.int .i64 x.f1).wf = true ∧ (Lit.int .i64 x.f2).wf = true ∧ (Lit.int .i64 x.f3).wf = true ∧ (Lit.int .i64 x.f4).wf = true ∧ (Lit.int .u32 x.f5).wf = true ∧ (Lit.int .u32 x.f6).wf = true ∧ x.f7.size ≤ 140737488351232
def bulk24 (x : S24) : Nat := (1 + (1 + (1 + (1 + (1 + (1 + (1 + (x.f7.size + 1)))))))) + 1
theorem opens24 : Opens Try.prog k24 24 good24 bulk24 := by
  have h := opens_struct (t := 24) (fun x : S24 => (x.f0, x.f1, x.f2, x.f3, x.f4, x.f5, x.f6, x.f7)) (fun y => ⟨y.1, y.2.1, y.2.2.1, y.2.2.2.1, y.2.2.2.2.1, y.2.2.2.2.2.1, y.2.2.2.2.2.2.1, y.2.2.2.2.2.2.2⟩) (fun _ => rfl) Try.underlying24 (sz := (1 + (1 + (1 + (1 + (1 + (1 + (1 + 1)))))))) (by kernel_rfl) (opens_cons (by kernel_rfl) (s1 := 1) (by kernel_rfl) (opens_int Try.underlying3) (opens_cons (by kernel_rfl) (s1 := 1) (by kernel_rfl) (opens_int Try.underlying3) (opens_cons (by kernel_rfl) (s1 := 1) (by kernel_rfl) (opens_int Try.underlying3) (opens_cons (by kernel_rfl) (s1 := 1) (by kernel_rfl) (opens_int Try.underlying3) (opens_cons (by kernel_rfl) (s1 := 1) (by kernel_rfl) (opens_int Try.underlying3) (opens_cons (by kernel_rfl) (s1 := 1) (by kernel_rfl) (opens_int Try.underlying22) (opens_cons (by kernel_rfl) (s1 := 1) (by kernel_rfl) (opens_int Try.underlying22) (opens_one (sz := 1) (by kernel_rfl) (by kernel_rfl) (opens_string Try.underlying9)))))))))
  exact h
end Go.Proofs.Ytnmijielhmkggaa.PIpv4Told
