/- Bookings: the reference's test of a list, by its own name. -/
import Derived.Test.YtnlghcpidlpfkaaBkB
set_option linter.unusedVariables false
namespace Go.Proofs.Ytnlghcpidlpfkaa
open Go.RowKit

end Go.Proofs.Ytnlghcpidlpfkaa
