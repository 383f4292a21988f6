/- Ranges: the two range tests and the tests of days that are made of them. -/
import Derived.Test.YtnlghcpidlpfkaaProg
import Derived.Test.YtnlghcpidlpfkaaMem
set_option linter.unusedVariables false
namespace Go.Proofs.Ytnlghcpidlpfkaa
open Go.RowKit

theorem l00In_any (n lo hi : Int) (w : World) : Calls Try.prog 159 #[.int .i64 n, .int .i64 lo, .int .i64 hi] w fun e w' => e = .returned (.bool (inR n lo hi)) ∧ w = w' := by
  by_cases h1 : lo ≤ n <;> by_cases h2 : n ≤ hi
  all_goals
    go_enter Try.func159, Try.ntmps159
    go_wp2
    go_ret
    exact ⟨ret_bool (by simp [inR, h1, h2]), rfl⟩

theorem within_any (n lo hi : Int) (w : World) : Calls Try.prog 157 #[.int .i64 n, .int .i64 lo, .int .i64 hi] w fun e w' => e = .returned (.bool (inR n lo hi)) ∧ w = w' := by
  by_cases h1 : lo ≤ n <;> by_cases h2 : n ≤ hi
  all_goals
    go_enter Try.func157, Try.ntmps157
    go_wp2
    go_ret
    exact ⟨ret_bool (by simp [inR, h1, h2]), rfl⟩

theorem isBookDay_any (d : Int) (w : World) : Calls Try.prog 192 #[.int .i64 d] w fun e w' => e = .returned (.bool (inR d 0 20000)) ∧ w = w' := by
  go_enter Try.func192, Try.ntmps192
  go_wp2_with (go_at_call 157; refine (within_any _ _ _ _).mono ?_; rintro e w' ⟨rfl, rfl⟩)
  go_ret
  exact ⟨rfl, rfl⟩
theorem l25Day_any (d : Int) (w : World) : Calls Try.prog 139 #[.int .i64 d] w fun e w' => e = .returned (.bool (inR d 0 20000)) ∧ w = w' := by
  go_enter Try.func139, Try.ntmps139
  go_wp2_with (go_at_call 159; refine (l00In_any _ _ _ _).mono ?_; rintro e w' ⟨rfl, rfl⟩)
  go_ret
  exact ⟨rfl, rfl⟩
theorem l24Day_any (d : Int) (w : World) : Calls Try.prog 168 #[.int .i64 d] w fun e w' => e = .returned (.bool (inR d 0 20000)) ∧ w = w' := by
  go_enter Try.func168, Try.ntmps168
  go_wp2_with (go_at_call 159; refine (l00In_any _ _ _ _).mono ?_; rintro e w' ⟨rfl, rfl⟩)
  go_ret
  exact ⟨rfl, rfl⟩
theorem isContractDay_any (d : Int) (w : World) : Calls Try.prog 166 #[.int .i64 d] w fun e w' => e = .returned (.bool (inR d 0 20000)) ∧ w = w' := by
  go_enter Try.func166, Try.ntmps166
  go_wp2_with (go_at_call 157; refine (within_any _ _ _ _).mono ?_; rintro e w' ⟨rfl, rfl⟩)
  go_ret
  exact ⟨rfl, rfl⟩
end Go.Proofs.Ytnlghcpidlpfkaa
