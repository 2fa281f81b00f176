/- What the row of FieldsReads gives of its arguments. -/
import Derived.Test.YtoigojlemffikaaDoorRows
import Derived.Test.YtoigojlemffikaaDoorOpen
import Derived.Test.YtoigojlemffikaaDoorPFieldsx
namespace Go.Proofs.YtoigojlemffikaaDoor.PFields
open Go.RowKit Go.Proofs.YtoigojlemffikaaDoorW.PrintWords Go.Proofs.YtoigojlemffikaaDoor.Opening
set_option linter.unusedVariables false
end Go.Proofs.YtoigojlemffikaaDoor.PFields
