/- What the row of H3Writes gives of its arguments. -/
import Derived.Test.YtnnmdocdiedgiaaDoorRows
import Derived.Test.YtnnmdocdiedgiaaDoorOpen
import Derived.Test.YtnnmdocdiedgiaaDoorPH3Writesx
namespace Go.Proofs.YtnnmdocdiedgiaaDoor.PH3Writes
open Go.RowKit Go.Proofs.YtnnmdocdiedgiaaDoorW.PrintWords Go.Proofs.YtnnmdocdiedgiaaDoor.Opening
set_option linter.unusedVariables false
end Go.Proofs.YtnnmdocdiedgiaaDoor.PH3Writes
