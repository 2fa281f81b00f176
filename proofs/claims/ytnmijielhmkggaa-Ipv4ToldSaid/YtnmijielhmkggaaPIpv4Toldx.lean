/- Written by a program of this session (xprint.py, over the kit's print): Go functions told as Lean functions, each with the proof that a call answers just so. -/
import Derived.Test.YtnmijielhmkggaaPIpv4Toldx0
import Derived.Test.YtnmijielhmkggaaPIpv4Toldx1
import Derived.Test.YtnmijielhmkggaaPIpv4Toldx2
import Derived.Test.YtnmijielhmkggaaPIpv4Toldx3
namespace Go.Proofs.Ytnmijielhmkggaa.PIpv4Told
open Go.Proofs.Ytnmijielhmkggaa.Hand
open Go.RowKit Go.Proofs.YtnmijielhmkggaaW.PrintWords Go.Proofs.YtnmijielhmkggaaW.PrintLast Go.Proofs.YtnmijielhmkggaaW.PrintMore
attribute [local go_sem] max2_int min2_int max_two min_two max_three min_three max_four min_four   -- for this text's walks alone
set_option linter.unusedVariables false
set_option linter.unusedSimpArgs false

end Go.Proofs.Ytnmijielhmkggaa.PIpv4Told
