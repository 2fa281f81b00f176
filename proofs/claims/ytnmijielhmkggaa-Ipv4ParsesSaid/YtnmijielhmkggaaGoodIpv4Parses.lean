/- What the row of Ipv4Parses gives of its arguments; its pure statement. -/
import Derived.Test.YtnmijielhmkggaaRows
import Derived.Test.YtnmijielhmkggaaOpen
import Derived.Test.YtnmijielhmkggaaPIpv4Parsesx7
namespace Go.Proofs.Ytnmijielhmkggaa.PIpv4Parses
open Go.RowKit Go.Proofs.YtnmijielhmkggaaW.PrintWords Go.Proofs.Ytnmijielhmkggaa.Opening
set_option linter.unusedVariables false
/-- THE PURE STATEMENT of Ipv4Parses. -/
def Law.Pure : Prop := ∀ (x0 : ByteArray), x0.size ≤ 140737488351232 → ∃ k, vizardlaw02_Ipv4Parses.f k x0 = some true
end Go.Proofs.Ytnmijielhmkggaa.PIpv4Parses
