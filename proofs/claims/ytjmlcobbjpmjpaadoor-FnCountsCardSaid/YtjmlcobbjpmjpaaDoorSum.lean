/- Sums of numbers, in the reference and in the program. -/
import Derived.Test.YtjmlcobbjpmjpaaDoorI64
set_option linter.unusedVariables false
namespace Go.Proofs.YtjmlcobbjpmjpaaDoor
open Go.RowKit

def sumTo (xs : List Int) : Nat → Int
  | 0 => 0
  | k + 1 => sumTo xs k + xs.getD k 0
theorem sumTo_step {xs : List Int} {k : Nat} {x : Int} (h : xs[k]? = some x) : sumTo xs (k + 1) = sumTo xs k + x := by simp [sumTo, List.getD, h]
theorem sumTo_bd {xs : List Int} {b : Int} (hb : 0 ≤ b) (h : ∀ x ∈ xs, -b ≤ x ∧ x ≤ b) (k : Nat) : -(b * k) ≤ sumTo xs k ∧ sumTo xs k ≤ b * k := by
  induction k with
  | zero => simp [sumTo]
  | succ k ih =>
    have h1 : -b ≤ xs.getD k 0 ∧ xs.getD k 0 ≤ b := by
      rcases hx : xs[k]? with _ | z
      · simp [List.getD, hx]; omega
      · simp only [List.getD, hx, Option.getD_some]; exact h z (List.mem_of_getElem? hx)
    rw [sumTo, Int.natCast_succ, Int.mul_add, Int.mul_one]
    generalize b * (k : Int) = t at ih ⊢
    omega
theorem sumOf_any (A : Option Addr) (n c B : Nat) (xs : List Int) (w : World) (h : Reads w B 1 A n (ints xs)) (hn : n ≤ 1048576) (hb : ∀ x ∈ xs, -1000000000000 ≤ x ∧ x ≤ 1000000000000) :
    Calls Tryd.prog 69 #[.slice A n c] w fun e w' => e = .returned (.int .i64 (sumTo xs n)) ∧ w = w' := by
  have HB := Lib.hid hb
  clear hb
  go_enter Tryd.func69, Tryd.ntmps69
  go_wp2
  go_loop [3, 8] (fun s i => ∃ k : Nat, k ≤ n ∧ i = .int .i64 k ∧ s = .int .i64 (sumTo xs k)) (fun _ i => n - (intOf i).toNat)
  case atStart => exact ⟨0, Nat.zero_le _, rfl, rfl⟩
  case round =>
    obtain ⟨k, hk, rfl, rfl⟩ := hrel
    by_cases hlt : k < n
    · obtain ⟨x, b, off, he, rfl, hb, c0⟩ := int_at h hlt
      have hx := HB.out x (List.mem_of_getElem? he)
      have hs := sumTo_bd (by omega) HB.out k
      have HS := Lib.hid (sumTo_step he)
      clear he h
      generalize sumTo xs k = s at *
      go_wp2
      go_round
      case rel => exact ⟨k + 1, by omega, by go_num, by rw [HS.out]⟩
      case measure => simp [intOf]; omega
    · obtain rfl : k = n := by omega
      go_wp2
      go_ret
      exact ⟨rfl, rfl⟩

theorem l00Sum_any (A : Option Addr) (n c B : Nat) (xs : List Int) (w : World) (h : Reads w B 1 A n (ints xs)) (hn : n ≤ 1048576) (hb : ∀ x ∈ xs, -1000000000000 ≤ x ∧ x ≤ 1000000000000) :
    Calls Tryd.prog 108 #[.slice A n c] w fun e w' => e = .returned (.int .i64 (sumTo xs n)) ∧ w = w' := by
  have HB := Lib.hid hb
  clear hb
  go_enter Tryd.func108, Tryd.ntmps108
  go_wp2
  go_loop [3, 4] (fun s i => ∃ k : Nat, k ≤ n ∧ i = .int .i64 k ∧ s = .int .i64 (sumTo xs k)) (fun _ i => n - (intOf i).toNat)
  case atStart => exact ⟨0, Nat.zero_le _, rfl, rfl⟩
  case round =>
    obtain ⟨k, hk, rfl, rfl⟩ := hrel
    by_cases hlt : k < n
    · obtain ⟨x, b, off, he, rfl, hb, c0⟩ := int_at h hlt
      have hx := HB.out x (List.mem_of_getElem? he)
      have hs := sumTo_bd (by omega) HB.out k
      have HS := Lib.hid (sumTo_step he)
      clear he h
      generalize sumTo xs k = s at *
      go_wp2
      go_round
      case rel => exact ⟨k + 1, by omega, by go_num, by rw [HS.out]⟩
      case measure => simp [intOf]; omega
    · obtain rfl : k = n := by omega
      go_wp2
      go_ret
      exact ⟨rfl, rfl⟩
end Go.Proofs.YtjmlcobbjpmjpaaDoor
