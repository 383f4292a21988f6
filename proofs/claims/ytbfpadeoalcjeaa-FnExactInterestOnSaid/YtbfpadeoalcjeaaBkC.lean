/- Bookings: the reference's test of a list, by its own name. -/
import Derived.Test.YtbfpadeoalcjeaaBkB
set_option linter.unusedVariables false
namespace Go.Proofs.Ytbfpadeoalcjeaa
open Go.RowKit

end Go.Proofs.Ytbfpadeoalcjeaa
