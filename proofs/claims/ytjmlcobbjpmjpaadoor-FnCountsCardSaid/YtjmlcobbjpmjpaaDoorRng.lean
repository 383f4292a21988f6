/- Ranges: the two range tests and the tests of days that are made of them. -/
import Derived.Test.YtjmlcobbjpmjpaaDoorProg
import Derived.Test.YtjmlcobbjpmjpaaDoorMem
set_option linter.unusedVariables false
namespace Go.Proofs.YtjmlcobbjpmjpaaDoor
open Go.RowKit

theorem l00In_any (n lo hi : Int) (w : World) : Calls Tryd.prog 71 #[.int .i64 n, .int .i64 lo, .int .i64 hi] w fun e w' => e = .returned (.bool (inR n lo hi)) ∧ w = w' := by
  by_cases h1 : lo ≤ n <;> by_cases h2 : n ≤ hi
  all_goals
    go_enter Tryd.func71, Tryd.ntmps71
    go_wp2
    go_ret
    exact ⟨ret_bool (by simp [inR, h1, h2]), rfl⟩

theorem within_any (n lo hi : Int) (w : World) : Calls Tryd.prog 58 #[.int .i64 n, .int .i64 lo, .int .i64 hi] w fun e w' => e = .returned (.bool (inR n lo hi)) ∧ w = w' := by
  by_cases h1 : lo ≤ n <;> by_cases h2 : n ≤ hi
  all_goals
    go_enter Tryd.func58, Tryd.ntmps58
    go_wp2
    go_ret
    exact ⟨ret_bool (by simp [inR, h1, h2]), rfl⟩

theorem l27Day_any (d : Int) (w : World) : Calls Tryd.prog 96 #[.int .i64 d] w fun e w' => e = .returned (.bool (inR d 0 100000)) ∧ w = w' := by
  go_enter Tryd.func96, Tryd.ntmps96
  go_wp2_with (go_at_call 71; refine (l00In_any _ _ _ _).mono ?_; rintro e w' ⟨rfl, rfl⟩)
  go_ret
  exact ⟨rfl, rfl⟩
end Go.Proofs.YtjmlcobbjpmjpaaDoor
