/- Ranges: the two range tests and the tests of days that are made of them. -/
import Derived.Test.YtgcepomehgedfaaDoorProg
import Derived.Test.YtgcepomehgedfaaDoorMem
set_option linter.unusedVariables false
namespace Go.Proofs.YtgcepomehgedfaaDoor
open Go.RowKit

theorem within_any (n lo hi : Int) (w : World) : Calls Tryd.prog 47 #[.int .i64 n, .int .i64 lo, .int .i64 hi] w fun e w' => e = .returned (.bool (inR n lo hi)) ∧ w = w' := by
  by_cases h1 : lo ≤ n <;> by_cases h2 : n ≤ hi
  all_goals
    go_enter Tryd.func47, Tryd.ntmps47
    go_wp2
    go_ret
    exact ⟨ret_bool (by simp [inR, h1, h2]), rfl⟩

end Go.Proofs.YtgcepomehgedfaaDoor
