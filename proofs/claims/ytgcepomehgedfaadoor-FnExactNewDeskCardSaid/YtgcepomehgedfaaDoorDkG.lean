/- The desk: its size, the law's copy, the law's comparison. -/
import Derived.Test.YtgcepomehgedfaaDoorDkD
set_option linter.unusedVariables false
namespace Go.Proofs.YtgcepomehgedfaaDoor
open Go.RowKit

end Go.Proofs.YtgcepomehgedfaaDoor
