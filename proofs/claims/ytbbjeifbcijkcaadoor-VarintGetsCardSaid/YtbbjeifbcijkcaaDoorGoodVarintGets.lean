/- What the row of VarintGets gives of its arguments; its pure statement. -/
import Derived.Test.YtbbjeifbcijkcaaDoorRows
import Derived.Test.YtbbjeifbcijkcaaDoorOpen
import Derived.Test.YtbbjeifbcijkcaaDoorPVarintGetsx1
namespace Go.Proofs.YtbbjeifbcijkcaaDoor.PVarintGets
open Go.RowKit Go.Proofs.YtbbjeifbcijkcaaDoorW.PrintWords Go.Proofs.YtbbjeifbcijkcaaDoor.Opening
set_option linter.unusedVariables false
/-- THE PURE STATEMENT of VarintGets. -/
def Law.Pure : Prop := ∀ (x0 : ByteArray), x0.size ≤ 140737488351232 → ∃ k, vizardlaw01_VarintGets.f k x0 = some true
end Go.Proofs.YtbbjeifbcijkcaaDoor.PVarintGets
