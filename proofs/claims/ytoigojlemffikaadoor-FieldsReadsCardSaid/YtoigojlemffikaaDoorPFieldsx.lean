/- Written by a program of this session (xprint.py, over the kit's print): Go functions told as Lean functions, each with the proof that a call answers just so. -/
import Derived.Test.YtoigojlemffikaaDoorPFieldsx0
import Derived.Test.YtoigojlemffikaaDoorPFieldsx1
import Derived.Test.YtoigojlemffikaaDoorPFieldsx2
import Derived.Test.YtoigojlemffikaaDoorPFieldsx3
import Derived.Test.YtoigojlemffikaaDoorPFieldsx4
import Derived.Test.YtoigojlemffikaaDoorPFieldsx5
import Derived.Test.YtoigojlemffikaaDoorPFieldsx6
import Derived.Test.YtoigojlemffikaaDoorPFieldsx7
import Derived.Test.YtoigojlemffikaaDoorPFieldsx8
namespace Go.Proofs.YtoigojlemffikaaDoor.PFields
open Go.Proofs.YtoigojlemffikaaDoor.Hand
open Go.RowKit Go.Proofs.YtoigojlemffikaaDoorW.PrintWords Go.Proofs.YtoigojlemffikaaDoorW.PrintLast Go.Proofs.YtoigojlemffikaaDoorW.PrintMore
attribute [local go_sem] max2_int min2_int max_two min_two max_three min_three max_four min_four   -- for this text's walks alone
set_option linter.unusedVariables false
set_option linter.unusedSimpArgs false

end Go.Proofs.YtoigojlemffikaaDoor.PFields
