/- The greater of zero and a number. -/
import Derived.Test.YtnlghcpidlpfkaaProg
import Derived.Test.YtnlghcpidlpfkaaMem
set_option linter.unusedVariables false
namespace Go.Proofs.Ytnlghcpidlpfkaa
open Go.RowKit

def pos0 (x : Int) : Int := if 0 < x then x else 0
theorem pos0_bd {x : Int} (h : x ≤ 80000000000) : 0 ≤ pos0 x ∧ pos0 x ≤ 80000000000 := by unfold pos0; split <;> omega
theorem l00Max0_any (x : Int) (w : World) (hx : I64 x) : Calls Try.prog 176 #[.int .i64 0, .int .i64 x] w fun e w' => e = .returned (.int .i64 (pos0 x)) ∧ w = w' := by
  by_cases h : x < 0
  · have HO := Lib.hid (show pos0 x = 0 by unfold pos0; split <;> omega)
    go_enter Try.func176, Try.ntmps176
    go_wp2
    go_ret
    exact ⟨ret_int HO.out.symm, rfl⟩
  · have HO := Lib.hid (show pos0 x = x by unfold pos0; split <;> omega)
    have h' : decide (x < 0) = false := decide_eq_false h
    go_enter Try.func176, Try.ntmps176
    go_wp2
    go_ret
    exact ⟨ret_int HO.out.symm, rfl⟩

end Go.Proofs.Ytnlghcpidlpfkaa
