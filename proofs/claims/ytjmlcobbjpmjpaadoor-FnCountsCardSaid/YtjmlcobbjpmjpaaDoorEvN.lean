/- Events: the busiest window. -/
import Derived.Test.YtjmlcobbjpmjpaaDoorEvM
set_option linter.unusedVariables false
namespace Go.Proofs.YtjmlcobbjpmjpaaDoor
open Go.RowKit

def busyWin (l : List Ev) (h : Int) : Int × Int × Int :=
  if okEv l then (if inR h 1 24 then (((bestTo (movTo (hoursOf l) h.toNat (25 - h.toNat)) (25 - h.toNat) : Nat) : Int), valTo (movTo (hoursOf l) h.toNat (25 - h.toNat)) (25 - h.toNat), 0) else (0, 0, 2)) else (0, 0, 1)
theorem busyWin_ok {l : List Ev} {h : Nat} (h1 : okEv l = true) (h2 : inR (h : Int) 1 24 = true) : busyWin l h = (((bestTo (movTo (hoursOf l) h (25 - h)) (25 - h) : Nat) : Int), valTo (movTo (hoursOf l) h (25 - h)) (25 - h), 0) := by simp [busyWin, h1, h2]
theorem busyWin_range {l : List Ev} {h : Int} (h1 : okEv l = true) (h2 : inR h 1 24 = false) : busyWin l h = (0, 0, 2) := by simp [busyWin, h1, h2]
theorem busyWin_bad {l : List Ev} {h : Int} (h1 : okEv l = false) : busyWin l h = (0, 0, 1) := by simp [busyWin, h1]

theorem specBusiestWindow_any (A : Option Addr) (n c : Nat) (l : List Ev) (h : Int) (B : Nat) (w : World) (hr : Reads w B 2 A n (evs l)) (hB : B ≤ w.heap.size) (hn : n ≤ 1048576) (hx : I64 h) :
    Calls Tryd.prog 37 #[.slice A n c, .int .i64 h] w fun e w' => e = .returned (.tuple #[.int .i64 (busyWin l h).1, .int .i64 (busyWin l h).2.1, .int .i64 (busyWin l h).2.2]) ∧ Below w.heap.size w w' := by
  by_cases hok : okEv l = true
  · have HO := Lib.hid hok
    by_cases hw : inR h 1 24 = true
    · have HW := Lib.hid hw
      have hb := inR_true.1 hw
      obtain ⟨h, rfl⟩ := Int.eq_ofNat_of_zero_le (show 0 ≤ h by omega)
      go_enter Tryd.func37, Tryd.ntmps37
      go_wp2_with fail
      refine (l26Ok_any _ _ _ _ _ _ hr hn).mono ?_
      rintro e w' ⟨rfl, rfl⟩
      go_wp2_with fail
      refine (l00In_any _ _ _ _).mono ?_
      rintro e w' ⟨rfl, rfl⟩
      go_wp2_with fail
      refine (l26Moving_any _ _ _ l _ _ _ hr hB HO.out (by omega) (by omega)).mono ?_
      rintro e w1 ⟨A', m, d, rfl, s1, b1⟩
      have hm : m = 25 - h := by have h1 := s1.len; rw [ints_length, movTo_len] at h1; omega
      have HP := Lib.hid (show busyWin l h = (((bestTo (movTo (hoursOf l) h (25 - h)) m : Nat) : Int), valTo (movTo (hoursOf l) h (25 - h)) m, 0) by rw [busyWin_ok HO.out HW.out, hm])
      have hm0 : 0 < m := by omega
      have hm1 : m ≤ 24 := by omega
      clear hm
      go_wp2_with fail
      refine (l26Most_any _ _ _ _ _ _ (s1.reads (Nat.le_refl _)) (Nat.le_refl _) hm0 (by omega)).mono ?_
      rintro e w2 ⟨rfl, b2⟩
      have HB := Lib.hid (bnext b1 b2 (Nat.le_refl _))
      have hbl := bestTo_lt' (movTo (hoursOf l) h (25 - h)) hm0
      obtain ⟨y, b', off', he', rfl, hb', c1⟩ := int_at ((s1.on b2).reads (Nat.le_refl _)) hbl
      have HV := Lib.hid (show valTo (movTo (hoursOf l) h (25 - h)) m = y from getD_of he')
      clear he' s1 b1 b2 hr hok hw
      generalize hq : bestTo (movTo (hoursOf l) h (25 - h)) m = q at *
      have i2 : (0 : Int) ≤ q := by omega
      have i3 : (q : Int) < m := by omega
      have HQ := Lib.hid hq
      clear hq
      go_wp2_with fail
      go_quiet (fail)
      go_wp2
      go_ret3
      rw [HP.out, HV.out]
      exact ⟨rfl, below_drewN HB.out _⟩
    · have hw : inR h 1 24 = false := by simpa using hw
      have HW := Lib.hid hw
      go_enter Tryd.func37, Tryd.ntmps37
      go_wp2_with fail
      refine (l26Ok_any _ _ _ _ _ _ hr hn).mono ?_
      rintro e w' ⟨rfl, rfl⟩
      go_wp2_with fail
      refine (l00In_any _ _ _ _).mono ?_
      rintro e w' ⟨rfl, rfl⟩
      go_wp2
      go_ret3
      rw [busyWin_range HO.out HW.out]
      exact ⟨rfl, Below.refl _ _⟩
  · have hok : okEv l = false := by simpa using hok
    have HO := Lib.hid hok
    go_enter Tryd.func37, Tryd.ntmps37
    go_wp2_with fail
    refine (l26Ok_any _ _ _ _ _ _ hr hn).mono ?_
    rintro e w' ⟨rfl, rfl⟩
    go_wp2
    go_ret3
    rw [busyWin_bad HO.out]
    exact ⟨rfl, Below.refl _ _⟩

theorem implBusiestWindow_any (A : Option Addr) (n c : Nat) (l : List Ev) (h : Int) (B : Nat) (w : World) (hr : Reads w B 2 A n (evs l)) (hB : B ≤ w.heap.size) (hn : n ≤ 1048576) (hx : I64 h) :
    Calls Tryd.prog 36 #[.slice A n c, .int .i64 h] w fun e w' => e = .returned (.tuple #[.int .i64 (busyWin l h).1, .int .i64 (busyWin l h).2.1, .int .i64 (busyWin l h).2.2]) ∧ Below w.heap.size w w' := by
  have hmov : ∃ xs cd, moving l h = (xs, cd) := ⟨_, _, rfl⟩
  obtain ⟨xs, cd, hmv⟩ := hmov
  have HMV := Lib.hid hmv
  have hcd : (cd = 0 ∧ okEv l = true ∧ inR h 1 24 = true) ∨ (cd ≠ 0 ∧ busyWin l h = (0, 0, cd)) := by
    cases hok : okEv l
    · rw [moving_bad hok] at hmv; injection hmv with _ h2; exact .inr ⟨by omega, by rw [busyWin_bad hok, ← h2]⟩
    · cases hw : inR h 1 24
      · rw [moving_range hok hw] at hmv; injection hmv with _ h2; exact .inr ⟨by omega, by rw [busyWin_range hok hw, ← h2]⟩
      · have hb := inR_true.1 hw
        obtain ⟨h, rfl⟩ := Int.eq_ofNat_of_zero_le (show 0 ≤ h by omega)
        rw [moving_ok hok hw] at hmv; injection hmv with _ h2; exact .inl ⟨h2.symm, rfl, rfl⟩
  clear hmv
  rcases hcd with ⟨rfl, hok, hw⟩ | ⟨hne, hfin⟩
  · have HO := Lib.hid hok
    have HW := Lib.hid hw
    have hb := inR_true.1 hw
    obtain ⟨h, rfl⟩ := Int.eq_ofNat_of_zero_le (show 0 ≤ h by omega)
    clear hok hw
    go_enter Tryd.func36, Tryd.ntmps36
    go_wp2_with fail
    refine (implMovingCounts_any _ _ _ l _ _ _ hr hB hn hx).mono ?_
    rintro e w1 ⟨A', m, d, rfl, s1, b1⟩
    rw [HMV.out] at s1 ⊢
    have hxs : xs = movTo (hoursOf l) h (25 - h) := by have h1 := HMV.out; rw [moving_ok HO.out HW.out] at h1; injection h1 with h1 _; exact h1.symm
    have hm : m = 25 - h := by have h1 := s1.len; rw [ints_length] at h1; simp only [hxs, movTo_len] at h1; omega
    have HXS := Lib.hid hxs
    have HM := Lib.hid hm
    have hm0 : 0 < m := by omega
    have hm1 : m ≤ 24 := by omega
    clear hm hxs
    go_wp2_with fail
    refine (greatest_any _ _ _ _ _ _ (s1.reads (Nat.le_refl _)) hm0 (by omega)).mono ?_
    rintro e w2 ⟨rfl, rfl⟩
    go_wp2
    go_ret3
    rw [busyWin_ok HO.out HW.out, ← HM.out, HXS.out, ← HM.out]
    exact ⟨rfl, b1⟩
  · have HF := Lib.hid hfin
    have hne' : (cd == 0) = false := by rw [beq_eq_false_iff_ne]; exact hne
    have hne2 : (cd != 0) = true := by rw [bne_iff_ne]; exact hne
    clear hne hfin
    go_enter Tryd.func36, Tryd.ntmps36
    go_wp2_with fail
    refine (implMovingCounts_any _ _ _ l _ _ _ hr hB hn hx).mono ?_
    rintro e w1 ⟨A', m, d, rfl, s1, b1⟩
    rw [HMV.out] at s1 ⊢
    go_wp2
    go_ret3
    rw [HF.out]
    exact ⟨rfl, b1⟩
end Go.Proofs.YtjmlcobbjpmjpaaDoor
