/- Events: the law's comparison of two lists that read alike; its marks. -/
import Derived.Test.YtjmlcobbjpmjpaaDoorEvB
set_option linter.unusedVariables false
namespace Go.Proofs.YtjmlcobbjpmjpaaDoor
open Go.RowKit

end Go.Proofs.YtjmlcobbjpmjpaaDoor
