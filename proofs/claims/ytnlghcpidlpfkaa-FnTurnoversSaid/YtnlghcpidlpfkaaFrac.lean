/- Fractions: greatest common divisors, the lowest terms. -/
import Derived.Test.YtnlghcpidlpfkaaProg
import Derived.Test.YtnlghcpidlpfkaaMem
import Derived.Deep.QuietTactic
import Derived.BigQuiet
import Derived.RegionTactic
set_option linter.unusedVariables false
namespace Go.Proofs.Ytnlghcpidlpfkaa
open Go.RowKit

theorem gcd_step (x y : Nat) : Nat.gcd y (x % y) = Nat.gcd x y := by
  rw [Nat.gcd_comm y (x % y), ← Nat.gcd_rec, Nat.gcd_comm]
theorem l00Gcd_any (a b : Nat) (w : World) (ha : a ≤ 9000000000000000000) (hb : b ≤ 9000000000000000000) : Calls Try.prog 216 #[.int .i64 a, .int .i64 b] w fun e w' => e = .returned (.int .i64 (Nat.gcd a b : Nat)) ∧ w = w' := by
  go_enter Try.func216, Try.ntmps216
  go_wp2
  go_loop [0, 1] (fun s t => ∃ x y : Nat, s = .int .i64 x ∧ t = .int .i64 y ∧ Hid (Nat.gcd x y = Nat.gcd a b) ∧ x ≤ 9000000000000000000 ∧ y ≤ 9000000000000000000) (fun _ t => (intOf t).toNat)
  case atStart => exact ⟨a, b, rfl, rfl, rfl, ha, hb⟩
  case round =>
    obtain ⟨x, y, rfl, rfl, hg, hx, hy⟩ := hrel
    by_cases h0 : y = 0
    · subst h0
      go_wp2
      go_ret
      exact ⟨ret_int (by rw [← hg.out]; simp), rfl⟩
    · have hne : ((y : Int) != 0) = true := by rw [bne_iff_ne]; omega
      have hlt : x % y < y := Nat.mod_lt _ (by omega)
      have hc : ((x % y : Nat) : Int) = (x : Int) % (y : Int) := Int.natCast_emod x y
      have HC := Lib.hid hc
      clear hc
      go_wp2
      go_round
      case rel => exact ⟨y, x % y, rfl, by rw [HC.out], by unfold Hid; rw [gcd_step]; exact hg, hy, by omega⟩
      case measure => simp only [intOf]; simp; rw [← HC.out]; omega

theorem gcd_any (a b : Nat) (w : World) (ha : a ≤ 9000000000000000000) (hb : b ≤ 9000000000000000000) : Calls Try.prog 215 #[.int .i64 a, .int .i64 b] w fun e w' => e = .returned (.int .i64 (Nat.gcd a b : Nat)) ∧ Below w.heap.size w w' := by
  go_enter Try.func215, Try.ntmps215
  go_wp2
  go_loopw [0, 1] (fun s t wr => ∃ x y : Nat, s = .int .i64 x ∧ t = .int .i64 y ∧ Hid (Nat.gcd x y = Nat.gcd a b) ∧ x ≤ 9000000000000000000 ∧ y ≤ 9000000000000000000 ∧ Below w.heap.size w wr) (fun _ t _ => (intOf t).toNat)
  case atStart => exact ⟨a, b, rfl, rfl, rfl, ha, hb, Below.refl _ _⟩
  case round =>
    obtain ⟨x, y, rfl, rfl, hg, hx, hy, hbel⟩ := hrel
    by_cases h0 : y = 0
    · subst h0
      go_wp2
      go_ret
      refine ⟨ret_int ?_, hbel⟩
      rw [← hg.out]
      simp
    · have hne : ((y : Int) != 0) = true := by rw [bne_iff_ne]; omega
      have hlt : x % y < y := Nat.mod_lt _ (by omega)
      have hc : ((x % y : Nat) : Int) = (x : Int) % (y : Int) := Int.natCast_emod x y
      have HC := Lib.hid hc
      clear hc
      have hz : ((y : Int) == 0) = false := by rw [beq_eq_false_iff_ne]; omega
      go_wp2_with fail
      go_quiet (fail)
      go_wp2
      go_roundw
      case rel => exact ⟨y, x % y, rfl, by rw [HC.out], by unfold Hid; rw [gcd_step]; exact hg, hy, by omega, below_drewN hbel _⟩
      case measure => simp only [intOf]; simp; rw [← HC.out]; omega

theorem wrap_div (a g : Nat) (ha : a ≤ 9000000000000000000) : wrap64 ((a : Int) / (g : Int)) = ((a / g : Nat) : Int) := by
  have h : (a : Int) / (g : Int) = ((a / g : Nat) : Int) := (Int.natCast_ediv a g).symm
  have h2 : a / g ≤ a := Nat.div_le_self a g
  rw [h]
  generalize a / g = q at *
  exact IntWalk.wrap64_in _ ⟨by omega, by omega⟩
/-- A fraction in lowest terms. -/
def lowF (a b : Nat) : Int × Int := ((a / Nat.gcd a b : Nat), (b / Nat.gcd a b : Nat))

theorem l00SizeN_any (a : Nat) (w : World) (ha : a ≤ 9000000000000000000) : Calls Try.prog 164 #[.int .i64 a] w fun e w' => e = .returned (.int .i64 a) ∧ w = w' := by
  go_enter Try.func164, Try.ntmps164
  go_wp2
  go_ret
  exact ⟨rfl, rfl⟩

theorem l02Make_any (a b : Nat) (w : World) (hb0 : 0 < b) (ha : a ≤ 9000000000000000000) (hb : b ≤ 9000000000000000000) :
    Calls Try.prog 162 #[.int .i64 a, .int .i64 b] w fun e w' => e = .returned (.agg #[.int .i64 (lowF a b).1, .int .i64 (lowF a b).2]) ∧ Below w.heap.size w w' := by
  have hg0 : 0 < Nat.gcd a b := Nat.gcd_pos_of_pos_right a hb0
  have hgb : Nat.gcd a b ≤ b := Nat.gcd_le_right a hb0
  go_enter Try.func162, Try.ntmps162
  go_wp2_with fail
  refine (l00SizeN_any _ _ ha).mono ?_
  rintro e w' ⟨rfl, rfl⟩
  go_wp2_with fail
  refine (l00Gcd_any _ _ _ ha hb).mono ?_
  rintro e w' ⟨rfl, rfl⟩
  go_wp2_with fail
  have HL := Lib.hid (show lowF a b = (((a / Nat.gcd a b : Nat) : Int), ((b / Nat.gcd a b : Nat) : Int)) from rfl)
  generalize Nat.gcd a b = g at *
  have hne : ((g : Int) == 0) = false := by rw [beq_eq_false_iff_ne]; omega
  have hnn : (g : Int) ≠ 0 := by omega
  have e1 := Lib.hid (wrap_div a g ha)
  have e2 := Lib.hid (wrap_div b g hb)
  go_region
  all_goals
    go_wp2
    rw [e1.out, e2.out]
    exact bodyPost_ret (v := .agg #[.int .i64 ((a / g : Nat) : Int), .int .i64 ((b / g : Nat) : Int)]) (by simp [results, Try.results162, go_sem]) rfl ⟨by rw [HL.out], ((Below.refl _ _).alloc (Nat.le_refl _) _).drew⟩

theorem lowest_any (a b : Nat) (w : World) (hb0 : 0 < b) (ha : a ≤ 9000000000000000000) (hb : b ≤ 9000000000000000000) :
    Calls Try.prog 161 #[.int .i64 a, .int .i64 b] w fun e w' => e = .returned (.agg #[.int .i64 (lowF a b).1, .int .i64 (lowF a b).2]) ∧ Below w.heap.size w w' := by
  have hg0 : 0 < Nat.gcd a b := Nat.gcd_pos_of_pos_right a hb0
  have hgb : Nat.gcd a b ≤ b := Nat.gcd_le_right a hb0
  go_enter Try.func161, Try.ntmps161
  go_wp2_with fail
  refine (gcd_any _ _ _ ha hb).mono ?_
  rintro e w1 ⟨rfl, b1⟩
  have hc0 := b1.cell (p := ⟨w.heap.size, 0, none⟩) (by simp)
  have hc1 := b1.cell (p := ⟨w.heap.size, 1, none⟩) (by simp)
  have hf0 := b1.frozen (p := ⟨w.heap.size, 0, none⟩) (by simp)
  have hf1 := b1.frozen (p := ⟨w.heap.size, 1, none⟩) (by simp)
  have hz1 : w.heap.size < w1.heap.size := by have := b1.size; simp at this; omega
  have HB := Lib.hid (((Below.refl w.heap.size w).alloc (Nat.le_refl _) _).trans (b1.mono (by simp)))
  clear b1
  go_wp2_with fail
  have HL := Lib.hid (show lowF a b = (((a / Nat.gcd a b : Nat) : Int), ((b / Nat.gcd a b : Nat) : Int)) from rfl)
  generalize Nat.gcd a b = g at *
  have hne : ((g : Int) == 0) = false := by rw [beq_eq_false_iff_ne]; omega
  have hnn : (g : Int) ≠ 0 := by omega
  have e1 := Lib.hid (wrap_div a g ha)
  have e2 := Lib.hid (wrap_div b g hb)
  go_simp
  go_region
  all_goals
    go_wp2
    rw [e1.out, e2.out]
    exact bodyPost_ret (v := .agg #[.int .i64 ((a / g : Nat) : Int), .int .i64 ((b / g : Nat) : Int)]) (by simp [results, Try.results161, go_sem, hc0, hc1]) rfl ⟨by rw [HL.out], ((HB.out.setCell (Nat.le_refl _) _).setCell (Nat.le_refl _) _).drew⟩
end Go.Proofs.Ytnlghcpidlpfkaa
