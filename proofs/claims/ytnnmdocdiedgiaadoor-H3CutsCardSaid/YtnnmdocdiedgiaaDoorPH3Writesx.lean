/- Written by a program of this session (xprint.py, over the kit's print): Go functions told as Lean functions, each with the proof that a call answers just so. -/
import Derived.Test.YtnnmdocdiedgiaaDoorPH3Writesx0
import Derived.Test.YtnnmdocdiedgiaaDoorPH3Writesx1
import Derived.Test.YtnnmdocdiedgiaaDoorPH3Writesx2
import Derived.Test.YtnnmdocdiedgiaaDoorPH3Writesx3
import Derived.Test.YtnnmdocdiedgiaaDoorPH3Writesx4
namespace Go.Proofs.YtnnmdocdiedgiaaDoor.PH3Writes
open Go.Proofs.YtnnmdocdiedgiaaDoor.Hand
open Go.RowKit Go.Proofs.YtnnmdocdiedgiaaDoorW.PrintWords Go.Proofs.YtnnmdocdiedgiaaDoorW.PrintLast Go.Proofs.YtnnmdocdiedgiaaDoorW.PrintMore
attribute [local go_sem] max2_int min2_int max_two min_two max_three min_three max_four min_four   -- for this text's walks alone
set_option linter.unusedVariables false
set_option linter.unusedSimpArgs false

end Go.Proofs.YtnnmdocdiedgiaaDoor.PH3Writes
