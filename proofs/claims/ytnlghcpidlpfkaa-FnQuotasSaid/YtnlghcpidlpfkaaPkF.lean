/- The laws' small helpers: whether a code is long, lists of numbers and of texts compared and searched. -/
import Derived.Test.YtnlghcpidlpfkaaI64
set_option linter.unusedVariables false
set_option linter.unusedSimpArgs false
namespace Go.Proofs.Ytnlghcpidlpfkaa
open Go.RowKit

theorem f6big_any (A : Option Addr) (n c : Nat) (w : World) (hn : n ≤ 9223372036854775807) :
    Calls Try.prog 51 #[.slice A n c] w fun e w' => e = .returned (.bool (decide (4096 < n))) ∧ w = w' := by
  by_cases h : 4096 < n
  · rw [decide_eq_true h]
    go_enter Try.func51, Try.ntmps51
    go_wp2
    go_ret
    exact ⟨ret_bool (by simp; omega), rfl⟩
  · rw [decide_eq_false h]
    go_enter Try.func51, Try.ntmps51
    go_wp2
    go_ret
    exact ⟨ret_bool (by simp; omega), rfl⟩
theorem f6ints_same (A A' : Option Addr) (n c c' B : Nat) (l : List Int) (w : World) (h : Reads w B 1 A n (ints l)) (h' : Reads w B 1 A' n (ints l)) (hn : n ≤ 1048576) (hB : B ≤ w.heap.size) :
    Calls Try.prog 67 #[.slice A n c, .slice A' n c'] w fun e w' => e = .returned (.bool true) ∧ Below w.heap.size w w' := by
  go_enter Try.func67, Try.ntmps67
  go_wp2
  go_loopw [5] (fun i wr => ∃ k : Nat, k ≤ n ∧ i = .int .i64 k ∧ Below w.heap.size w wr) (fun i _ => n - (intOf i).toNat)
  case atStart => exact ⟨0, Nat.zero_le _, rfl, Below.refl _ _⟩
  case round =>
    obtain ⟨k, hk, rfl, hbel⟩ := hrel
    by_cases hlt : k < n
    · obtain ⟨x, b, off, he, rfl, hb, c0⟩ := int_at (h.on hB hbel) hlt
      obtain ⟨x', b', off', he', rfl, hb', c1⟩ := int_at (h'.on hB hbel) hlt
      obtain rfl : x = x' := by rw [he] at he'; injection he'
      have HB := Lib.hid hbel
      have hlt' : (k : Int) < n := by omega
      have hk0 : (0 : Int) ≤ k := by omega
      clear he he' hbel h h'
      go_wp2_with fail
      go_quiet (fail)
      go_wp2
      go_roundw
      case rel => exact ⟨k + 1, by omega, by go_num, below_drewN HB.out _⟩
      case measure => simp [intOf]; omega
    · obtain rfl : k = n := by omega
      go_wp2
      go_ret
      exact ⟨rfl, hbel⟩
theorem f6has_any (A : Option Addr) (n c B : Nat) (l : List Int) (x : Int) (w : World) (h : Reads w B 1 A n (ints l)) (hn : n ≤ 1048576) :
    Calls Try.prog 70 #[.slice A n c, .int .i64 x] w fun e w' => e = .returned (.bool (l.any (· == x))) ∧ w = w' := by
  have HL := Lib.hid (ints_len h)
  go_enter Try.func70, Try.ntmps70
  go_wp2
  go_loop [5] (fun i => ∃ k : Nat, k ≤ n ∧ i = .int .i64 k ∧ AllTo (fun y => !(y == x)) l k) (fun i => n - (intOf i).toNat)
  case atStart => exact ⟨0, Nat.zero_le _, rfl, AllTo.zero _ _⟩
  case round =>
    obtain ⟨k, hk, rfl, hall⟩ := hrel
    have HA := Lib.hid hall
    clear hall
    by_cases hlt : k < n
    · obtain ⟨y, b, off, he, rfl, hb, c0⟩ := int_at h hlt
      have HE := Lib.hid he
      clear he
      rcases hy : (y == x) with _ | _
      · have HY := Lib.hid hy
        go_wp2
        go_round
        case rel => exact ⟨k + 1, by omega, by go_num, HA.out.step HE.out (by simp [HY.out])⟩
        case measure => simp [intOf]; omega
      · have HY := Lib.hid (any_of (p := fun z => z == x) HE.out hy)
        go_wp2
        go_ret
        exact ⟨ret_bool HY.out.symm, rfl⟩
    · obtain rfl : k = n := by omega
      have HY := Lib.hid (any_none (p := fun z => z == x) HA.out HL.out)
      go_wp2
      go_ret
      exact ⟨ret_bool HY.out.symm, rfl⟩
end Go.Proofs.Ytnlghcpidlpfkaa
