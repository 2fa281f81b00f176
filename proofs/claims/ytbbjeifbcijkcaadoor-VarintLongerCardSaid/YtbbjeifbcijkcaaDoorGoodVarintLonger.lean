/- What the row of VarintLonger gives of its arguments; its pure statement. -/
import Derived.Test.YtbbjeifbcijkcaaDoorRows
import Derived.Test.YtbbjeifbcijkcaaDoorOpen
import Derived.Test.YtbbjeifbcijkcaaDoorPVarintLongerx2
namespace Go.Proofs.YtbbjeifbcijkcaaDoor.PVarintLonger
open Go.RowKit Go.Proofs.YtbbjeifbcijkcaaDoorW.PrintWords Go.Proofs.YtbbjeifbcijkcaaDoor.Opening
set_option linter.unusedVariables false
/-- THE PURE STATEMENT of VarintLonger. -/
def Law.Pure : Prop := ∀ (x0 : Int) (x1 : Int), (Lit.int .i64 x0).wf = true → (Lit.int .i64 x1).wf = true → ∃ k, vizardlaw01_VarintLonger.f k x0 x1 = some true
end Go.Proofs.YtbbjeifbcijkcaaDoor.PVarintLonger
