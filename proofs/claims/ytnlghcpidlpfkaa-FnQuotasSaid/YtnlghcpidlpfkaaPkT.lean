/- The laws' helper that compares two lists of texts. -/
import Derived.Test.YtnlghcpidlpfkaaStrS
import Derived.Test.YtnlghcpidlpfkaaI64
import Derived.Deep.QuietTactic
import Derived.BigQuiet
import Derived.Laws.Cover1
set_option linter.unusedVariables false
set_option linter.unusedSimpArgs false
namespace Go.Proofs.Ytnlghcpidlpfkaa
open Go.RowKit

theorem f6texts_same (A A' : Option Addr) (n c c' B : Nat) (l : List ByteArray) (w : World) (h : Reads w B 1 A n (strs l)) (h' : Reads w B 1 A' n (strs l)) (hn : n ≤ 1048576) (hB : B ≤ w.heap.size) :
    Calls Try.prog 85 #[.slice A n c, .slice A' n c'] w fun e w' => e = .returned (.bool true) ∧ Below w.heap.size w w' := by
  go_enter Try.func85, Try.ntmps85
  go_wp2
  go_loopw [5] (fun i wr => ∃ k : Nat, k ≤ n ∧ i = .int .i64 k ∧ Below w.heap.size w wr) (fun i _ => n - (intOf i).toNat)
  case atStart => exact ⟨0, Nat.zero_le _, rfl, Below.refl _ _⟩
  case round =>
    obtain ⟨k, hk, rfl, hbel⟩ := hrel
    by_cases hlt : k < n
    · obtain ⟨x, b, off, he, rfl, hb, c0⟩ := str_at (h.on hB hbel) hlt
      obtain ⟨x', b', off', he', rfl, hb', c1⟩ := str_at (h'.on hB hbel) hlt
      obtain rfl : x = x' := by rw [he] at he'; injection he'
      have HB := Lib.hid hbel
      have hlt' : (k : Int) < n := by omega
      have hk0 : (0 : Int) ≤ k := by omega
      clear he he' hbel h h'
      have htt : (x.toList == x.toList) = true := by simp
      go_wp2_with fail
      go_quiet (fail)
      clear htt
      go_wp2
      go_roundw
      case rel => exact ⟨k + 1, by omega, by go_num, below_drewN HB.out _⟩
      case measure => simp [intOf]; omega
    · obtain rfl : k = n := by omega
      go_wp2
      go_ret
      exact ⟨rfl, hbel⟩
end Go.Proofs.Ytnlghcpidlpfkaa
