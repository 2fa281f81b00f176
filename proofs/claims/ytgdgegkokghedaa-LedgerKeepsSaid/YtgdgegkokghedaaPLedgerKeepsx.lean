/- Written by a program of this session (xprint.py, over the kit's print): Go functions told as Lean functions, each with the proof that a call answers just so. -/
import Derived.Test.YtgdgegkokghedaaPLedgerKeepsx0
import Derived.Test.YtgdgegkokghedaaPLedgerKeepsx1
import Derived.Test.YtgdgegkokghedaaPLedgerKeepsx2
import Derived.Test.YtgdgegkokghedaaPLedgerKeepsx3
namespace Go.Proofs.Ytgdgegkokghedaa.PLedgerKeeps
open Go.Proofs.Ytgdgegkokghedaa.Hand
open Go.RowKit Go.Proofs.YtgdgegkokghedaaW.PrintWords Go.Proofs.YtgdgegkokghedaaW.PrintLast Go.Proofs.YtgdgegkokghedaaW.PrintMore
attribute [local go_sem] max2_int min2_int max_two min_two max_three min_three max_four min_four   -- for this text's walks alone
set_option linter.unusedVariables false
set_option linter.unusedSimpArgs false

end Go.Proofs.Ytgdgegkokghedaa.PLedgerKeeps
