/- Events: moving counts and the busiest window. -/
import Derived.Test.YtjmlcobbjpmjpaaDoorEvC
import Derived.Test.YtjmlcobbjpmjpaaDoorEvD
import Derived.Test.YtjmlcobbjpmjpaaDoorAcc
import Derived.Test.YtjmlcobbjpmjpaaDoorSum
import Derived.Test.YtjmlcobbjpmjpaaDoorBest
set_option linter.unusedVariables false
namespace Go.Proofs.YtjmlcobbjpmjpaaDoor
open Go.RowKit

theorem hours_bd' {l : List Ev} (h : okEv l = true) : ∀ x ∈ hoursOf l, 0 ≤ x ∧ x ≤ 200 := fun x hx => by
  have h1 := histOf_bound _ 24 l x hx
  have h2 := okEv_len h
  omega
/-- The sums of h numbers that follow one another, k of them. -/
def movTo (hs : List Int) (h : Nat) : Nat → List Int
  | 0 => []
  | k + 1 => movTo hs h k ++ [sumTo ((hs.drop k).take h) h]
theorem movTo_len (hs : List Int) (h : Nat) : ∀ k, (movTo hs h k).length = k
  | 0 => rfl
  | k + 1 => by simp [movTo, movTo_len hs h k]
theorem part_mem {hs : List Int} {k h : Nat} {x : Int} (hx : x ∈ (hs.drop k).take h) : x ∈ hs := List.mem_of_mem_drop (List.mem_of_mem_take hx)
def moving (l : List Ev) (h : Int) : List Int × Int := if okEv l then (if inR h 1 24 then (movTo (hoursOf l) h.toNat (25 - h.toNat), 0) else ([], 2)) else ([], 1)
theorem moving_ok {l : List Ev} {h : Nat} (h1 : okEv l = true) (h2 : inR (h : Int) 1 24 = true) : moving l h = (movTo (hoursOf l) h (25 - h), 0) := by simp [moving, h1, h2]
theorem moving_range {l : List Ev} {h : Int} (h1 : okEv l = true) (h2 : inR h 1 24 = false) : moving l h = ([], 2) := by simp [moving, h1, h2]
theorem moving_bad {l : List Ev} {h : Int} (h1 : okEv l = false) : moving l h = ([], 1) := by simp [moving, h1]
theorem cntMovingCounts_len {l : List Ev} {h : Int} {m : Nat} (hm : (ints (moving l h).1).length = m * 1) : m ≤ 1048576 := by
  rw [ints_length] at hm
  unfold moving at hm
  split at hm
  · split at hm
    · simp only [movTo_len] at hm; omega
    · simp at hm; omega
  · simp at hm; omega
theorem ints_snoc' (xs : List Int) (x : Int) : ints xs ++ [.int .i64 x] = ints (xs ++ [x]) := by simp [ints]
theorem info_i64' : (Tryd.prog.info? 2).map (fun i => (i.zero, i.size, i.bytes)) = some (some (.int .i64 0), 1, 8) := by kernel_rfl
theorem drop_take_ints (hs : List Int) (k h : Nat) : ((ints hs).drop k).take h = ints ((hs.drop k).take h) := by simp [ints]

theorem l26Moving_any (A : Option Addr) (n c : Nat) (l : List Ev) (h : Nat) (B : Nat) (w : World) (hr : Reads w B 2 A n (evs l)) (hB : B ≤ w.heap.size) (hok : okEv l = true) (hh : 1 ≤ h) (hh2 : h ≤ 24) :
    Calls Tryd.prog 72 #[.slice A n c, .int .i64 h] w fun e w' => ∃ A' m d, e = .returned (.slice A' m d) ∧ Sl w' w.heap.size w'.heap.size 2 1 A' m d (ints (movTo (hoursOf l) h (25 - h))) ∧ Below w.heap.size w w' := by
  have HO := Lib.hid hok
  go_enter Tryd.func72, Tryd.ntmps72
  go_wp2_with fail
  refine (l26Hours_any _ _ _ _ l _ hr hB HO.out).mono ?_
  rintro e w1 ⟨g, rfl, s1, b1⟩
  go_wp2
  have hz1 := b1.size
  have R1 := s1.reads (Nat.le_refl _)
  have HB1 := Lib.hid b1
  have acc0 := Acc.made w1 2 1
  clear s1 b1 hr hok
  go_loopw [6, 7] (fun o i wr => ∃ (k : Nat) (A' : Option Addr) (m d : Nat), k ≤ 25 - h ∧ m = k ∧ i = .int .i64 k ∧ o = .slice A' m d ∧ Acc w1.heap.size w1.heap.size 2 1 w1 wr A' m d (ints (movTo (hoursOf l) h k))) (fun _ i _ => 25 - (intOf i).toNat)
  case atStart => exact ⟨0, _, _, _, Nat.zero_le _, rfl, rfl, rfl, acc0⟩
  case round =>
    obtain ⟨k, A', m, d, hk, rfl, rfl, rfl, hacc⟩ := hrel
    have HA := Lib.hid hacc
    clear acc0 hacc
    by_cases hlt : m + h ≤ 24
    · have RS := (HA.out.reads R1 (Nat.le_refl _) (Nat.le_refl _)).sub (i := m) (m := h) hlt
      rw [drop_take_ints, Nat.zero_add] at RS
      have hcap : ¬ (24 : Nat) = m := by omega
      have hd1 : (m : Int) + (h : Int) ≤ 24 := by omega
      have hnn : ((m : Int) + (h : Int)).toNat = m + h := by omega
      have hsub : m + h - m = h := by omega
      have HQ := Lib.hid (show movTo (hoursOf l) h (m + 1) = movTo (hoursOf l) h m ++ [sumTo (((hoursOf l).drop m).take h) h] from rfl)
      go_wp2_with fail
      have HH := Lib.hid (hours_bd' HO.out)
      refine (l00Sum_any _ _ _ _ _ _ RS (by omega) (fun x hx => by have := HH.out x (part_mem hx); omega)).mono ?_
      rintro e w' ⟨rfl, rfl⟩
      generalize sumTo (((hoursOf l).drop m).take h) h = S at *
      go_wp2_with (at_builtin; refine wpList_acc rfl _ _ 36 rfl 2 _ 1 8 Tryd.underlying36 info_i64' rfl (by decide) (by decide) HA.out (Nat.le_refl _) rfl [.int .i64 S] rfl rfl (fun u hu => by simp at hu; subst hu; rfl) (by omega) ?_; intro A2 d2 w2 hacc2; have HA2 := Lib.hid hacc2; clear hacc2)
      go_roundw
      case rel => exact ⟨m + 1, _, _, _, by omega, rfl, by go_num, rfl, by rw [HQ.out, ← ints_snoc']; exact HA2.out⟩
      case measure => simp [intOf]; omega
    · have hm25 : m = 25 - h := by omega
      have HM := Lib.hid hm25
      have hd1 : ¬ (m : Int) + (h : Int) ≤ 24 := by omega
      clear hm25
      go_wp2
      go_ret
      exact ⟨_, _, _, rfl, by have := HA.out.sl hz1 hz1; rwa [HM.out] at this ⊢, HB1.out.trans (HA.out.below hz1 hz1)⟩

theorem specMovingCounts_any (A : Option Addr) (n c : Nat) (l : List Ev) (h : Int) (B : Nat) (w : World) (hr : Reads w B 2 A n (evs l)) (hB : B ≤ w.heap.size) (hn : n ≤ 1048576) (hx : I64 h) :
    Calls Tryd.prog 29 #[.slice A n c, .int .i64 h] w fun e w' => ∃ A' m d, e = .returned (.tuple #[.slice A' m d, .int .i64 (moving l h).2]) ∧ Sl w' w.heap.size w'.heap.size 2 1 A' m d (ints (moving l h).1) ∧ Below w.heap.size w w' := by
  by_cases hok : okEv l = true
  · have HO := Lib.hid hok
    by_cases hw : inR h 1 24 = true
    · have HW := Lib.hid hw
      have hb := inR_true.1 hw
      obtain ⟨h, rfl⟩ := Int.eq_ofNat_of_zero_le (show 0 ≤ h by omega)
      go_enter Tryd.func29, Tryd.ntmps29
      go_wp2_with fail
      refine (l26Ok_any _ _ _ _ _ _ hr hn).mono ?_
      rintro e w' ⟨rfl, rfl⟩
      go_wp2_with fail
      refine (l00In_any _ _ _ _).mono ?_
      rintro e w' ⟨rfl, rfl⟩
      go_wp2_with fail
      refine (l26Moving_any _ _ _ l _ _ _ hr hB HO.out (by omega) (by omega)).mono ?_
      rintro e w1 ⟨A', m, d, rfl, s1, b1⟩
      go_wp2
      go_ret2
      rw [moving_ok HO.out HW.out]
      exact ⟨_, _, _, rfl, s1, b1⟩
    · have hw : inR h 1 24 = false := by simpa using hw
      have HW := Lib.hid hw
      go_enter Tryd.func29, Tryd.ntmps29
      go_wp2_with fail
      refine (l26Ok_any _ _ _ _ _ _ hr hn).mono ?_
      rintro e w' ⟨rfl, rfl⟩
      go_wp2_with fail
      refine (l00In_any _ _ _ _).mono ?_
      rintro e w' ⟨rfl, rfl⟩
      go_wp2
      go_ret2
      rw [moving_range HO.out HW.out]
      exact ⟨_, _, _, rfl, Sl.nil _ _ _ _ _, Below.refl _ _⟩
  · have hok : okEv l = false := by simpa using hok
    have HO := Lib.hid hok
    go_enter Tryd.func29, Tryd.ntmps29
    go_wp2_with fail
    refine (l26Ok_any _ _ _ _ _ _ hr hn).mono ?_
    rintro e w' ⟨rfl, rfl⟩
    go_wp2
    go_ret2
    rw [moving_bad HO.out]
    exact ⟨_, _, _, rfl, Sl.nil _ _ _ _ _, Below.refl _ _⟩

theorem implMovingCounts_any (A : Option Addr) (n c : Nat) (l : List Ev) (h : Int) (B : Nat) (w : World) (hr : Reads w B 2 A n (evs l)) (hB : B ≤ w.heap.size) (hn : n ≤ 1048576) (hx : I64 h) :
    Calls Tryd.prog 28 #[.slice A n c, .int .i64 h] w fun e w' => ∃ A' m d, e = .returned (.tuple #[.slice A' m d, .int .i64 (moving l h).2]) ∧ Sl w' w.heap.size w'.heap.size 2 1 A' m d (ints (moving l h).1) ∧ Below w.heap.size w w' := by
  by_cases hok : okEv l = true
  · have HO := Lib.hid hok
    by_cases hw : inR h 1 24 = true
    · have HW := Lib.hid hw
      have hb := inR_true.1 hw
      obtain ⟨h, rfl⟩ := Int.eq_ofNat_of_zero_le (show 0 ≤ h by omega)
      go_enter Tryd.func28, Tryd.ntmps28
      go_wp2_with fail
      refine (implValidEvents_any _ _ _ _ _ _ hr hB hn).mono ?_
      rintro e w0 ⟨rfl, b0⟩
      go_wp2_with fail
      refine (within_any _ _ _ _).mono ?_
      rintro e w' ⟨rfl, rfl⟩
      go_wp2_with fail
      have hz0 := b0.size
      have made := (Sl.made w0 2 1)
      refine (byHour_any _ _ _ _ l _ ((hr.on hB b0).on (Nat.le_trans hB hz0) ((Below.refl _ _).alloc (Nat.le_refl _) _)) (by simp; omega) HO.out).mono ?_
      rintro e w1 ⟨g, rfl, s1, b1⟩
      go_wp2
      have hz1 : w0.heap.size + 1 ≤ w1.heap.size := by have := b1.size; simpa using this
      obtain ⟨_, e3, hg1, hg2, hg3⟩ := s1.lt (by omega)
      injection e3 with e3; injection e3 with e3; subst e3
      have hg1 : w0.heap.size + 1 ≤ g := by simpa using hg1
      have R1 := s1.reads (Nat.le_refl _)
      have acc0 := Acc.start (made.on b1) (b0 := w0.heap.size) (fun a ha => by injection ha with ha; subst ha; rfl) w1.heap.size
      have HB1 := Lib.hid (bnext b0 ((Below.refl w0.heap.size w0).alloc (Nat.le_refl _) (.cells #[] 2)) (Nat.le_refl _) |>.trans (b1.mono (by simp; omega)))
      clear s1 b1 hr hok hw made b0
      go_loopw [6, 8] (fun o i wr => ∃ (k : Nat) (A' : Option Addr) (m d : Nat), k ≤ 25 - h ∧ m = k ∧ i = .int .i64 k ∧ o = .slice A' m d ∧ Acc w0.heap.size w1.heap.size 2 1 w1 wr A' m d (ints (movTo (hoursOf l) h k))) (fun _ i _ => 25 - (intOf i).toNat)
      case atStart => exact ⟨0, _, _, _, Nat.zero_le _, rfl, rfl, rfl, acc0⟩
      case round =>
        obtain ⟨k, A', m, d, hk, rfl, rfl, rfl, hacc⟩ := hrel
        have HA := Lib.hid hacc
        clear acc0 hacc
        by_cases hlt : m + h ≤ 24
        · have RS := (HA.out.readsNe R1 (Nat.le_refl _) (by omega)).sub (i := m) (m := h) hlt
          rw [drop_take_ints, Nat.zero_add] at RS
          have hcap : ¬ (24 : Nat) = m := by omega
          have hd1 : (m : Int) + (h : Int) ≤ 24 := by omega
          have hnn : ((m : Int) + (h : Int)).toNat = m + h := by omega
          have hsub : m + h - m = h := by omega
          have HQ := Lib.hid (show movTo (hoursOf l) h (m + 1) = movTo (hoursOf l) h m ++ [sumTo (((hoursOf l).drop m).take h) h] from rfl)
          go_wp2_with fail
          have HH := Lib.hid (hours_bd' HO.out)
          refine (sumOf_any _ _ _ _ _ _ RS (by omega) (fun x hx => by have := HH.out x (part_mem hx); omega)).mono ?_
          rintro e w' ⟨rfl, rfl⟩
          generalize sumTo (((hoursOf l).drop m).take h) h = S at *
          go_wp2_with (at_builtin; refine wpList_acc rfl _ _ 36 rfl 2 _ 1 8 Tryd.underlying36 info_i64' rfl (by decide) (by decide) HA.out (Nat.le_refl _) rfl [.int .i64 S] rfl rfl (fun u hu => by simp at hu; subst hu; rfl) (by omega) ?_; intro A2 d2 w2 hacc2; have HA2 := Lib.hid hacc2; clear hacc2)
          go_roundw
          case rel => exact ⟨m + 1, _, _, _, by omega, rfl, by go_num, rfl, by rw [HQ.out, ← ints_snoc']; exact HA2.out⟩
          case measure => simp [intOf]; omega
        · have hm25 : m = 25 - h := by omega
          have HM := Lib.hid hm25
          have hd1 : ¬ (m : Int) + (h : Int) ≤ 24 := by omega
          clear hm25
          go_wp2
          go_ret2
          rw [moving_ok HO.out HW.out]
          exact ⟨_, _, _, rfl, by have := HA.out.sl (lo := w.heap.size) (by omega) (by omega); rwa [HM.out] at this ⊢, HB1.out.trans (HA.out.below (by omega) (by omega))⟩
    · have hw : inR h 1 24 = false := by simpa using hw
      have HW := Lib.hid hw
      go_enter Tryd.func28, Tryd.ntmps28
      go_wp2_with fail
      refine (implValidEvents_any _ _ _ _ _ _ hr hB hn).mono ?_
      rintro e w0 ⟨rfl, b0⟩
      go_wp2_with fail
      refine (within_any _ _ _ _).mono ?_
      rintro e w' ⟨rfl, rfl⟩
      go_wp2
      go_ret2
      rw [moving_range HO.out HW.out]
      exact ⟨_, _, _, rfl, Sl.nil _ _ _ _ _, b0⟩
  · have hok : okEv l = false := by simpa using hok
    have HO := Lib.hid hok
    go_enter Tryd.func28, Tryd.ntmps28
    go_wp2_with fail
    refine (implValidEvents_any _ _ _ _ _ _ hr hB hn).mono ?_
    rintro e w0 ⟨rfl, b0⟩
    go_wp2
    go_ret2
    rw [moving_bad HO.out]
    exact ⟨_, _, _, rfl, Sl.nil _ _ _ _ _, b0⟩
end Go.Proofs.YtjmlcobbjpmjpaaDoor
