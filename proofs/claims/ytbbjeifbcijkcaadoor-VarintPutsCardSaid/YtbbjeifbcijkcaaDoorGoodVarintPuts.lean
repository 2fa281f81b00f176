/- What the row of VarintPuts gives of its arguments; its pure statement. -/
import Derived.Test.YtbbjeifbcijkcaaDoorRows
import Derived.Test.YtbbjeifbcijkcaaDoorOpen
import Derived.Test.YtbbjeifbcijkcaaDoorPVarintPutsx1
namespace Go.Proofs.YtbbjeifbcijkcaaDoor.PVarintPuts
open Go.RowKit Go.Proofs.YtbbjeifbcijkcaaDoorW.PrintWords Go.Proofs.YtbbjeifbcijkcaaDoor.Opening
set_option linter.unusedVariables false
/-- THE PURE STATEMENT of VarintPuts. -/
def Law.Pure : Prop := ∀ (x0 : Int), (Lit.int .i64 x0).wf = true → ∃ k, vizardlaw01_VarintPuts.f k x0 = some true
end Go.Proofs.YtbbjeifbcijkcaaDoor.PVarintPuts
