/- Bookings: the reference's test of a list, by its own name. -/
import Derived.Test.YtpcdpmbmibimlaaBkB
set_option linter.unusedVariables false
namespace Go.Proofs.Ytpcdpmbmibimlaa
open Go.RowKit

theorem specValidBookings_any (A : Option Addr) (n c : Nat) (l : List Bk) (B : Nat) (w : World) (h : Reads w B 3 A n (bks l)) (hB : B ≤ w.heap.size) (hn : n ≤ 1048576) (hsm : ∀ x ∈ l, x.small) :
    Calls Try.prog 36 #[.slice A n c] w fun e w' => e = .returned (.bool (okBks l)) ∧ Below w.heap.size w w' := by
  go_enter Try.func36, Try.ntmps36
  go_wp2_with fail
  refine (l25Ok_any A n c B l _ h hn hB hsm).mono ?_
  rintro e w1 ⟨rfl, b1⟩
  go_wp2
  go_ret
  exact ⟨rfl, b1⟩
end Go.Proofs.Ytpcdpmbmibimlaa
