/- slices.EqualFunc at runs with the program's sameRun; the program's SameRuns. -/
import Derived.Test.YtgcepomehgedfaaGreatDoorDkE
set_option linter.unusedVariables false
namespace Go.Proofs.YtgcepomehgedfaaGreatDoor
open Go.RowKit

end Go.Proofs.YtgcepomehgedfaaGreatDoor
