/- What the row of BucketTicks gives of its arguments. -/
import Derived.Test.YtpdbiooccnfkhaaRows
import Derived.Test.YtpdbiooccnfkhaaOpen
import Derived.Test.YtpdbiooccnfkhaaWMore
namespace Go.Proofs.Ytpdbiooccnfkhaa.PBucketTicks
open Go.RowKit Go.Proofs.YtpdbiooccnfkhaaW.PrintWords Go.Proofs.Ytpdbiooccnfkhaa.Opening
set_option linter.unusedVariables false
end Go.Proofs.Ytpdbiooccnfkhaa.PBucketTicks
