/- What the row of SlotsClasses gives of its arguments; its pure statement. -/
import Derived.Test.YtkadeigcblmcaaaRows
import Derived.Test.YtkadeigcblmcaaaOpen
import Derived.Test.YtkadeigcblmcaaaPSlotsClassesx2
namespace Go.Proofs.Ytkadeigcblmcaaa.PSlotsClasses
open Go.RowKit Go.Proofs.YtkadeigcblmcaaaW.PrintWords Go.Proofs.Ytkadeigcblmcaaa.Opening
set_option linter.unusedVariables false
/-- THE PURE STATEMENT of SlotsClasses. -/
def Law.Pure : Prop := ∀ (x0 : Int) (x1 : Int), (Lit.int .i64 x0).wf = true → (Lit.int .i64 x1).wf = true → ∃ k, vizardlaw21_SlotsClasses.f k x0 x1 = some true
end Go.Proofs.Ytkadeigcblmcaaa.PSlotsClasses
