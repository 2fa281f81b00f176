/- What the row of VarintOrder gives of its arguments; its pure statement. -/
import Derived.Test.YtbbjeifbcijkcaaDoorRows
import Derived.Test.YtbbjeifbcijkcaaDoorOpen
import Derived.Test.YtbbjeifbcijkcaaDoorPVarintOrderx1
namespace Go.Proofs.YtbbjeifbcijkcaaDoor.PVarintOrder
open Go.RowKit Go.Proofs.YtbbjeifbcijkcaaDoorW.PrintWords Go.Proofs.YtbbjeifbcijkcaaDoor.Opening
set_option linter.unusedVariables false
/-- THE PURE STATEMENT of VarintOrder. -/
def Law.Pure : Prop := ∀ (x0 : Int) (x1 : Int), (Lit.int .i64 x0).wf = true → (Lit.int .i64 x1).wf = true → ∃ k, vizardlaw01_VarintOrder.f k x0 x1 = some true
end Go.Proofs.YtbbjeifbcijkcaaDoor.PVarintOrder
