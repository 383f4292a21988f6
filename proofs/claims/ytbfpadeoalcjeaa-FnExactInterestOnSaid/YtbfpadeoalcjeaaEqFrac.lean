/- The law's comparison of two fractions that are alike. -/
import Derived.Test.YtbfpadeoalcjeaaProg
import Derived.Test.YtbfpadeoalcjeaaMem
set_option linter.unusedVariables false
namespace Go.Proofs.Ytbfpadeoalcjeaa
open Go.RowKit
theorem eqFraction_same (a b : Int) (w : World) : Calls Try.prog 38 #[.agg #[.int .i64 a, .int .i64 b], .agg #[.int .i64 a, .int .i64 b]] w fun e w' => e = .returned (.bool true) ∧ Below w.heap.size w w' := by
  go_enter Try.func38, Try.ntmps38
  go_wp2
  go_ret
  exact ⟨rfl, ((Below.refl _ _).alloc (Nat.le_refl _) _).alloc (by simp) _⟩
end Go.Proofs.Ytbfpadeoalcjeaa
