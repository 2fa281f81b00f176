/- What the row of VarintBack gives of its arguments; its pure statement. -/
import Derived.Test.YtbbjeifbcijkcaaDoorRows
import Derived.Test.YtbbjeifbcijkcaaDoorOpen
import Derived.Test.YtbbjeifbcijkcaaDoorPVarintBackx2
namespace Go.Proofs.YtbbjeifbcijkcaaDoor.PVarintBack
open Go.RowKit Go.Proofs.YtbbjeifbcijkcaaDoorW.PrintWords Go.Proofs.YtbbjeifbcijkcaaDoor.Opening
set_option linter.unusedVariables false
/-- THE PURE STATEMENT of VarintBack. -/
def Law.Pure : Prop := ∀ (x0 : Int) (x1 : ByteArray) (x2 : ByteArray) (x3 : Int), (Lit.int .i64 x0).wf = true → x1.size ≤ 140737488351232 → x2.size ≤ 140737488351232 → (Lit.int .i64 x3).wf = true → ∃ k, vizardlaw01_VarintBack.f k x0 x1 x2 x3 = some true
end Go.Proofs.YtbbjeifbcijkcaaDoor.PVarintBack
