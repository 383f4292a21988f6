/- Ranges: the two range tests and the tests of days that are made of them. -/
import Derived.Test.YtbfpadeoalcjeabProg
import Derived.Test.YtbfpadeoalcjeabMem
set_option linter.unusedVariables false
namespace Go.Proofs.Ytbfpadeoalcjeab
open Go.RowKit

theorem l00In_any (n lo hi : Int) (w : World) : Calls Try.prog 45 #[.int .i64 n, .int .i64 lo, .int .i64 hi] w fun e w' => e = .returned (.bool (inR n lo hi)) ∧ w = w' := by
  by_cases h1 : lo ≤ n <;> by_cases h2 : n ≤ hi
  all_goals
    go_enter Try.func45, Try.ntmps45
    go_wp2
    go_ret
    exact ⟨ret_bool (by simp [inR, h1, h2]), rfl⟩

theorem within_any (n lo hi : Int) (w : World) : Calls Try.prog 49 #[.int .i64 n, .int .i64 lo, .int .i64 hi] w fun e w' => e = .returned (.bool (inR n lo hi)) ∧ w = w' := by
  by_cases h1 : lo ≤ n <;> by_cases h2 : n ≤ hi
  all_goals
    go_enter Try.func49, Try.ntmps49
    go_wp2
    go_ret
    exact ⟨ret_bool (by simp [inR, h1, h2]), rfl⟩

theorem l24Day_any (d : Int) (w : World) : Calls Try.prog 46 #[.int .i64 d] w fun e w' => e = .returned (.bool (inR d 0 20000)) ∧ w = w' := by
  go_enter Try.func46, Try.ntmps46
  go_wp2_with (go_at_call 45; refine (l00In_any _ _ _ _).mono ?_; rintro e w' ⟨rfl, rfl⟩)
  go_ret
  exact ⟨rfl, rfl⟩
theorem isContractDay_any (d : Int) (w : World) : Calls Try.prog 50 #[.int .i64 d] w fun e w' => e = .returned (.bool (inR d 0 20000)) ∧ w = w' := by
  go_enter Try.func50, Try.ntmps50
  go_wp2_with (go_at_call 49; refine (within_any _ _ _ _).mono ?_; rintro e w' ⟨rfl, rfl⟩)
  go_ret
  exact ⟨rfl, rfl⟩
end Go.Proofs.Ytbfpadeoalcjeab
