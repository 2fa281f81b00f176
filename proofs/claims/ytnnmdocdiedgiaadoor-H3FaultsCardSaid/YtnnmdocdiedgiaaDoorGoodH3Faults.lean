/- What the row of H3Faults gives of its arguments. -/
import Derived.Test.YtnnmdocdiedgiaaDoorRows
import Derived.Test.YtnnmdocdiedgiaaDoorOpen
import Derived.Test.YtnnmdocdiedgiaaDoorWMore
namespace Go.Proofs.YtnnmdocdiedgiaaDoor.PH3Faults
open Go.RowKit Go.Proofs.YtnnmdocdiedgiaaDoorW.PrintWords Go.Proofs.YtnnmdocdiedgiaaDoor.Opening
set_option linter.unusedVariables false
end Go.Proofs.YtnnmdocdiedgiaaDoor.PH3Faults
