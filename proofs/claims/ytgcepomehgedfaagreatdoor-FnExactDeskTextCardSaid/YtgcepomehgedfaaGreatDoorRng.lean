/- Ranges: the two range tests and the tests of days that are made of them. -/
import Derived.Test.YtgcepomehgedfaaGreatDoorProg
import Derived.Test.YtgcepomehgedfaaGreatDoorMem
set_option linter.unusedVariables false
namespace Go.Proofs.YtgcepomehgedfaaGreatDoor
open Go.RowKit

theorem l00In_any (n lo hi : Int) (w : World) : Calls Tryz.prog 37 #[.int .i64 n, .int .i64 lo, .int .i64 hi] w fun e w' => e = .returned (.bool (inR n lo hi)) ∧ w = w' := by
  by_cases h1 : lo ≤ n <;> by_cases h2 : n ≤ hi
  all_goals
    go_enter Tryz.func37, Tryz.ntmps37
    go_wp2
    go_ret
    exact ⟨ret_bool (by simp [inR, h1, h2]), rfl⟩

theorem within_any (n lo hi : Int) (w : World) : Calls Tryz.prog 43 #[.int .i64 n, .int .i64 lo, .int .i64 hi] w fun e w' => e = .returned (.bool (inR n lo hi)) ∧ w = w' := by
  by_cases h1 : lo ≤ n <;> by_cases h2 : n ≤ hi
  all_goals
    go_enter Tryz.func43, Tryz.ntmps43
    go_wp2
    go_ret
    exact ⟨ret_bool (by simp [inR, h1, h2]), rfl⟩

theorem l27Day_any (d : Int) (w : World) : Calls Tryz.prog 82 #[.int .i64 d] w fun e w' => e = .returned (.bool (inR d 0 100000)) ∧ w = w' := by
  go_enter Tryz.func82, Tryz.ntmps82
  go_wp2_with (go_at_call 37; refine (l00In_any _ _ _ _).mono ?_; rintro e w' ⟨rfl, rfl⟩)
  go_ret
  exact ⟨rfl, rfl⟩
end Go.Proofs.YtgcepomehgedfaaGreatDoor
