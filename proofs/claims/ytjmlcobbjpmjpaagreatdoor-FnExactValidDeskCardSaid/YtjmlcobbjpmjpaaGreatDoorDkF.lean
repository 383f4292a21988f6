/- slices.EqualFunc at runs with the program's sameRun; the program's SameRuns. -/
import Derived.Test.YtjmlcobbjpmjpaaGreatDoorDkE
set_option linter.unusedVariables false
namespace Go.Proofs.YtjmlcobbjpmjpaaGreatDoor
open Go.RowKit

end Go.Proofs.YtjmlcobbjpmjpaaGreatDoor
