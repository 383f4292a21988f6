/- Events: the peak hour. -/
import Derived.Test.YtnlghcpidlpfkaaEvE
import Derived.Test.YtnlghcpidlpfkaaBest
set_option linter.unusedVariables false
namespace Go.Proofs.Ytnlghcpidlpfkaa
open Go.RowKit

def peak (l : List Ev) : Int × Int × Int := if okEv l then (if l.length = 0 then (0, 0, 3) else ((bestTo (hoursOf l) 24 : Nat), valTo (hoursOf l) 24, 0)) else (0, 0, 1)
theorem peak_bad {l : List Ev} (h : okEv l = false) : peak l = (0, 0, 1) := by simp [peak, h]
theorem peak_none {l : List Ev} (h : okEv l = true) (h2 : l.length = 0) : peak l = (0, 0, 3) := by simp [peak, h, h2]
theorem peak_ok {l : List Ev} (h : okEv l = true) (h2 : ¬ l.length = 0) : peak l = (((bestTo (hoursOf l) 24 : Nat) : Int), valTo (hoursOf l) 24, 0) := by simp only [peak, h, if_true, if_neg h2]

theorem specPeakHour_any (A : Option Addr) (n c : Nat) (l : List Ev) (B : Nat) (w : World) (h : Reads w B 2 A n (evs l)) (hB : B ≤ w.heap.size) (hn : n ≤ 1048576) :
    Calls Try.prog 54 #[.slice A n c] w fun e w' => e = .returned (.tuple #[.int .i64 (peak l).1, .int .i64 (peak l).2.1, .int .i64 (peak l).2.2]) ∧ Below w.heap.size w w' := by
  have HL := Lib.hid (evs_len h)
  by_cases hok : okEv l = true
  · have HO := Lib.hid hok
    by_cases h0 : n = 0
    · subst h0
      go_enter Try.func54, Try.ntmps54
      go_wp2_with (go_at_call 131; refine (l26Ok_any _ _ _ _ _ _ h hn).mono ?_; rintro e w' ⟨rfl, rfl⟩)
      go_ret3
      rw [peak_none HO.out HL.out]
      exact ⟨rfl, Below.refl _ _⟩
    · have hz : ((n : Int) == 0) = false := by rw [beq_eq_false_iff_ne]; omega
      go_enter Try.func54, Try.ntmps54
      go_wp2_with (go_at_call 131; refine (l26Ok_any _ _ _ _ _ _ h hn).mono ?_; rintro e w' ⟨rfl, rfl⟩)
      refine (l26Hours_any _ _ _ _ l _ h hB HO.out).mono ?_
      rintro e w1 ⟨g, rfl, s1, b1⟩
      go_wp2_with fail
      refine (l26Most_any _ _ _ _ (hoursOf l) _ (s1.reads (Nat.le_refl _)) (Nat.le_refl _) (by omega) (by omega)).mono ?_
      rintro e w2 ⟨rfl, b2⟩
      have HB := Lib.hid (bnext b1 b2 (Nat.le_refl _))
      obtain ⟨y, b', off', he', e2, hb', c1⟩ := int_at (k := bestTo (hoursOf l) 24) ((s1.on b2).reads (Nat.le_refl _)) (bestTo_lt' _ (by omega))
      injection e2 with e2; injection e2 with e2 e2'; subst e2; subst e2'
      rw [Nat.zero_add] at c1
      have HV := Lib.hid (show valTo (hoursOf l) 24 = y from getD_of he')
      have hbl := bestTo_lt' (hoursOf l) (k := 24) (by omega)
      clear he' s1 b1 b2 h hok
      have HP := Lib.hid (peak_ok HO.out (by have := HL.out; omega))
      generalize hq : bestTo (hoursOf l) 24 = q at *
      have i2 : (0 : Int) ≤ q := by omega
      have i3 : (q : Int) < 24 := by omega
      have HQ := Lib.hid hq
      clear hq
      go_wp2_with fail
      go_quiet (fail)
      go_wp2
      go_ret3
      rw [HP.out, HV.out]
      exact ⟨rfl, below_drewN HB.out _⟩
  · have hok : okEv l = false := by simpa using hok
    have HO := Lib.hid hok
    go_enter Try.func54, Try.ntmps54
    go_wp2_with (go_at_call 131; refine (l26Ok_any _ _ _ _ _ _ h hn).mono ?_; rintro e w' ⟨rfl, rfl⟩)
    go_ret3
    rw [peak_bad HO.out]
    exact ⟨rfl, Below.refl _ _⟩

theorem implPeakHour_any (A : Option Addr) (n c : Nat) (l : List Ev) (B : Nat) (w : World) (h : Reads w B 2 A n (evs l)) (hB : B ≤ w.heap.size) (hn : n ≤ 1048576) :
    Calls Try.prog 53 #[.slice A n c] w fun e w' => e = .returned (.tuple #[.int .i64 (peak l).1, .int .i64 (peak l).2.1, .int .i64 (peak l).2.2]) ∧ Below w.heap.size w w' := by
  have HL := Lib.hid (evs_len h)
  by_cases hok : okEv l = true
  · have HO := Lib.hid hok
    by_cases h0 : n = 0
    · subst h0
      go_enter Try.func53, Try.ntmps53
      go_wp2_with (go_at_call 133; refine (implValidEvents_any _ _ _ _ _ _ h hB hn).mono ?_; rintro e w0 ⟨rfl, b0⟩)
      go_ret3
      rw [peak_none HO.out HL.out]
      exact ⟨rfl, b0⟩
    · have hz : ((n : Int) == 0) = false := by rw [beq_eq_false_iff_ne]; omega
      go_enter Try.func53, Try.ntmps53
      go_wp2_with fail
      refine (implValidEvents_any _ _ _ _ _ _ h hB hn).mono ?_
      rintro e w0 ⟨rfl, b0⟩
      go_wp2_with fail
      refine (byHour_any _ _ _ _ l _ (h.on hB b0) (Nat.le_trans hB b0.size) HO.out).mono ?_
      rintro e w1 ⟨g, rfl, s1, b1⟩
      go_wp2_with fail
      refine (greatest_any _ _ _ _ (hoursOf l) _ (s1.reads (Nat.le_refl _)) (by omega) (by omega)).mono ?_
      rintro e w2 ⟨rfl, rfl⟩
      go_wp2
      go_ret3
      rw [peak_ok HO.out (by have := HL.out; omega)]
      exact ⟨rfl, bnext b0 b1 (Nat.le_refl _)⟩
  · have hok : okEv l = false := by simpa using hok
    have HO := Lib.hid hok
    go_enter Try.func53, Try.ntmps53
    go_wp2_with (go_at_call 133; refine (implValidEvents_any _ _ _ _ _ _ h hB hn).mono ?_; rintro e w0 ⟨rfl, b0⟩)
    go_ret3
    rw [peak_bad HO.out]
    exact ⟨rfl, b0⟩
end Go.Proofs.Ytnlghcpidlpfkaa
