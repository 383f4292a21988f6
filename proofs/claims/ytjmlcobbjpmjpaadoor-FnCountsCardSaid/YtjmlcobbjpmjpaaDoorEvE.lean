/- Events: the exported counts and the difference of two days, in the reference and in the program. -/
import Derived.Test.YtjmlcobbjpmjpaaDoorEvC
import Derived.Test.YtjmlcobbjpmjpaaDoorEvD
set_option linter.unusedVariables false
namespace Go.Proofs.YtjmlcobbjpmjpaaDoor
open Go.RowKit

def cntHours (l : List Ev) : List Int × Int := if okEv l then (hoursOf l, 0) else ([], 1)
theorem cntHours_ok {l : List Ev} (h : okEv l = true) : cntHours l = (hoursOf l, 0) := by simp [cntHours, h]
theorem cntHours_bad {l : List Ev} (h : okEv l = false) : cntHours l = ([], 1) := by simp [cntHours, h]
theorem cntCountsByHour_len {l : List Ev} {m : Nat} (h : (ints (cntHours l).1).length = m * 1) : m ≤ 1048576 := by
  rw [ints_length] at h
  cases hok : okEv l
  · rw [cntHours_bad hok] at h; simp at h; omega
  · rw [cntHours_ok hok] at h; simp only [hoursOf, histOf_length] at h; omega

theorem specCountsByHour_any (A : Option Addr) (n c : Nat) (l : List Ev) (B : Nat) (w : World) (h : Reads w B 2 A n (evs l)) (hB : B ≤ w.heap.size) (hn : n ≤ 1048576) :
    Calls Tryd.prog 31 #[.slice A n c] w fun e w' => ∃ A' m d, e = .returned (.tuple #[.slice A' m d, .int .i64 (cntHours l).2]) ∧ Sl w' w.heap.size w'.heap.size 2 1 A' m d (ints (cntHours l).1) ∧ Below w.heap.size w w' := by
  by_cases hok : okEv l = true
  · have HO := Lib.hid hok
    go_enter Tryd.func31, Tryd.ntmps31
    go_wp2_with (go_at_call 70; refine (l26Ok_any _ _ _ _ _ _ h hn).mono ?_; rintro e w' ⟨rfl, rfl⟩)
    refine (l26Hours_any _ _ _ _ l _ h hB HO.out).mono ?_
    rintro e w1 ⟨g, rfl, s1, b1⟩
    go_wp2
    go_ret2
    rw [cntHours_ok HO.out]
    exact ⟨_, _, _, rfl, s1, b1⟩
  · have hok : okEv l = false := by simpa using hok
    have HO := Lib.hid hok
    go_enter Tryd.func31, Tryd.ntmps31
    go_wp2_with (go_at_call 70; refine (l26Ok_any _ _ _ _ _ _ h hn).mono ?_; rintro e w' ⟨rfl, rfl⟩)
    go_ret2
    rw [cntHours_bad HO.out]
    exact ⟨_, _, _, rfl, Sl.nil _ _ _ _ _, Below.refl _ _⟩

theorem implCountsByHour_any (A : Option Addr) (n c : Nat) (l : List Ev) (B : Nat) (w : World) (h : Reads w B 2 A n (evs l)) (hB : B ≤ w.heap.size) (hn : n ≤ 1048576) :
    Calls Tryd.prog 30 #[.slice A n c] w fun e w' => ∃ A' m d, e = .returned (.tuple #[.slice A' m d, .int .i64 (cntHours l).2]) ∧ Sl w' w.heap.size w'.heap.size 2 1 A' m d (ints (cntHours l).1) ∧ Below w.heap.size w w' := by
  by_cases hok : okEv l = true
  · have HO := Lib.hid hok
    go_enter Tryd.func30, Tryd.ntmps30
    go_wp2_with (go_at_call 41; refine (implValidEvents_any _ _ _ _ _ _ h hB hn).mono ?_; rintro e w0 ⟨rfl, b0⟩)
    refine (byHour_any _ _ _ _ l _ (h.on hB b0) (Nat.le_trans hB b0.size) HO.out).mono ?_
    rintro e w1 ⟨g, rfl, s1, b1⟩
    go_wp2
    go_ret2
    rw [cntHours_ok HO.out]
    exact ⟨_, _, _, rfl, s1.wide b0.size (Nat.le_refl _), bnext b0 b1 (Nat.le_refl _)⟩
  · have hok : okEv l = false := by simpa using hok
    have HO := Lib.hid hok
    go_enter Tryd.func30, Tryd.ntmps30
    go_wp2_with (go_at_call 41; refine (implValidEvents_any _ _ _ _ _ _ h hB hn).mono ?_; rintro e w0 ⟨rfl, b0⟩)
    go_ret2
    rw [cntHours_bad HO.out]
    exact ⟨_, _, _, rfl, Sl.nil _ _ _ _ _, b0⟩

def cntStations (l : List Ev) : List Int × Int := if okEv l then (stationsOf l, 0) else ([], 1)
theorem cntStations_ok {l : List Ev} (h : okEv l = true) : cntStations l = (stationsOf l, 0) := by simp [cntStations, h]
theorem cntStations_bad {l : List Ev} (h : okEv l = false) : cntStations l = ([], 1) := by simp [cntStations, h]
theorem cntCountsByStation_len {l : List Ev} {m : Nat} (h : (ints (cntStations l).1).length = m * 1) : m ≤ 1048576 := by
  rw [ints_length] at h
  cases hok : okEv l
  · rw [cntStations_bad hok] at h; simp at h; omega
  · rw [cntStations_ok hok] at h; simp only [stationsOf, histOf_length] at h; omega

theorem specCountsByStation_any (A : Option Addr) (n c : Nat) (l : List Ev) (B : Nat) (w : World) (h : Reads w B 2 A n (evs l)) (hB : B ≤ w.heap.size) (hn : n ≤ 1048576) :
    Calls Tryd.prog 33 #[.slice A n c] w fun e w' => ∃ A' m d, e = .returned (.tuple #[.slice A' m d, .int .i64 (cntStations l).2]) ∧ Sl w' w.heap.size w'.heap.size 2 1 A' m d (ints (cntStations l).1) ∧ Below w.heap.size w w' := by
  by_cases hok : okEv l = true
  · have HO := Lib.hid hok
    go_enter Tryd.func33, Tryd.ntmps33
    go_wp2_with (go_at_call 70; refine (l26Ok_any _ _ _ _ _ _ h hn).mono ?_; rintro e w' ⟨rfl, rfl⟩)
    refine (l26Stations_any _ _ _ _ l _ h hB HO.out).mono ?_
    rintro e w1 ⟨g, rfl, s1, b1⟩
    go_wp2
    go_ret2
    rw [cntStations_ok HO.out]
    exact ⟨_, _, _, rfl, s1, b1⟩
  · have hok : okEv l = false := by simpa using hok
    have HO := Lib.hid hok
    go_enter Tryd.func33, Tryd.ntmps33
    go_wp2_with (go_at_call 70; refine (l26Ok_any _ _ _ _ _ _ h hn).mono ?_; rintro e w' ⟨rfl, rfl⟩)
    go_ret2
    rw [cntStations_bad HO.out]
    exact ⟨_, _, _, rfl, Sl.nil _ _ _ _ _, Below.refl _ _⟩

theorem implCountsByStation_any (A : Option Addr) (n c : Nat) (l : List Ev) (B : Nat) (w : World) (h : Reads w B 2 A n (evs l)) (hB : B ≤ w.heap.size) (hn : n ≤ 1048576) :
    Calls Tryd.prog 32 #[.slice A n c] w fun e w' => ∃ A' m d, e = .returned (.tuple #[.slice A' m d, .int .i64 (cntStations l).2]) ∧ Sl w' w.heap.size w'.heap.size 2 1 A' m d (ints (cntStations l).1) ∧ Below w.heap.size w w' := by
  by_cases hok : okEv l = true
  · have HO := Lib.hid hok
    go_enter Tryd.func32, Tryd.ntmps32
    go_wp2_with (go_at_call 41; refine (implValidEvents_any _ _ _ _ _ _ h hB hn).mono ?_; rintro e w0 ⟨rfl, b0⟩)
    refine (byStation_any _ _ _ _ l _ (h.on hB b0) (Nat.le_trans hB b0.size) HO.out).mono ?_
    rintro e w1 ⟨g, rfl, s1, b1⟩
    go_wp2
    go_ret2
    rw [cntStations_ok HO.out]
    exact ⟨_, _, _, rfl, s1.wide b0.size (Nat.le_refl _), bnext b0 b1 (Nat.le_refl _)⟩
  · have hok : okEv l = false := by simpa using hok
    have HO := Lib.hid hok
    go_enter Tryd.func32, Tryd.ntmps32
    go_wp2_with (go_at_call 41; refine (implValidEvents_any _ _ _ _ _ _ h hB hn).mono ?_; rintro e w0 ⟨rfl, b0⟩)
    go_ret2
    rw [cntStations_bad HO.out]
    exact ⟨_, _, _, rfl, Sl.nil _ _ _ _ _, b0⟩

end Go.Proofs.YtjmlcobbjpmjpaaDoor
