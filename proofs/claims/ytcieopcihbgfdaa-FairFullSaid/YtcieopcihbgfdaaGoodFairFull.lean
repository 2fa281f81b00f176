/- What the row of FairFull gives of its arguments. -/
import Derived.Test.YtcieopcihbgfdaaRows
import Derived.Test.YtcieopcihbgfdaaOpen
import Derived.Test.YtcieopcihbgfdaaWMore
namespace Go.Proofs.Ytcieopcihbgfdaa.PFairDoes
open Go.RowKit Go.Proofs.YtcieopcihbgfdaaW.PrintWords Go.Proofs.Ytcieopcihbgfdaa.Opening
set_option linter.unusedVariables false
end Go.Proofs.Ytcieopcihbgfdaa.PFairDoes
