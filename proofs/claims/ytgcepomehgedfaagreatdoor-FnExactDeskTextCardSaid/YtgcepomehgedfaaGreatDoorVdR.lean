/- Times and ways tested by the reference. -/
import Derived.Test.YtgcepomehgedfaaGreatDoorVdO
set_option linter.unusedVariables false
set_option linter.unusedSimpArgs false
namespace Go.Proofs.YtgcepomehgedfaaGreatDoor
open Go.RowKit

def okTimes (l : List Int) : Bool := inR l.length 1 24 && l.all fun x => inR x 1 1000
def okWay (times way : List Int) : Bool := inR way.length 1 12 && way.all fun x => inR x 0 ((times.length : Int) - 1)
def okRun (times : List Int) (r : Rn) : Bool := okWay times r.way && inR r.st 0 100000
def okRuns (times : List Int) (rs : List Rn) : Bool := okTimes times && (decide (rs.length ≤ 12) && rs.all (okRun times))
theorem l06Start_any (x : Int) (w : World) : Calls Tryz.prog 40 #[.int .i64 x] w fun e w' => e = .returned (.bool (inR x 0 100000)) ∧ w = w' := by
  go_enter Tryz.func40, Tryz.ntmps40
  go_wp2_with (go_at_call 37; refine (l00In_any _ _ _ _).mono ?_; rintro e w' ⟨rfl, rfl⟩)
  go_ret
  exact ⟨rfl, rfl⟩

theorem l06Times_any (A : Option Addr) (n c B : Nat) (l : List Int) (w : World) (h : Reads w B 1 A n (ints l)) (hn : n ≤ 1048576) :
    Calls Tryz.prog 41 #[.slice A n c] w fun e w' => e = .returned (.bool (okTimes l)) ∧ w = w' := by
  have HL := Lib.hid (ints_len h)
  go_enter Tryz.func41, Tryz.ntmps41
  go_wp2
  go_loop [3] (fun i => ∃ k : Nat, k ≤ n ∧ i = .int .i64 k ∧ AllTo (fun x => inR x 1 1000) l k) (fun i => n - (intOf i).toNat)
  case atStart => exact ⟨0, Nat.zero_le _, rfl, AllTo.zero _ _⟩
  case round =>
    obtain ⟨k, hk, rfl, hall⟩ := hrel
    have HA := Lib.hid hall
    clear hall
    by_cases hlt : k < n
    · obtain ⟨x, b, off, he, rfl, hb, c0⟩ := int_at h hlt
      have HE := Lib.hid he
      clear he h
      go_wp2_with fail
      refine (l00In_any _ _ _ _).mono ?_
      rintro e w1 ⟨rfl, rfl⟩
      rcases ho : inR x 1 (1000) with _ | _
      · have HF := Lib.hid (show (okTimes l) = false by simp only [okTimes, okWay, all_bad (p := fun x => inR x 1 1000) HE.out ho, Bool.and_false])
        go_wp2
        go_ret
        exact ⟨ret_bool HF.out.symm, rfl⟩
      · have HT := Lib.hid ho
        go_wp2
        go_round
        case rel => exact ⟨k + 1, by omega, by go_num, HA.out.step (p := fun x => inR x 1 1000) HE.out HT.out⟩
        case measure => simp [intOf]; omega
    · obtain rfl : k = n := by omega
      have HF := Lib.hid (show (okTimes l) = inR k 1 24 by simp only [okTimes, okWay, HL.out, HA.out.done HL.out, Bool.and_true])
      go_wp2_with fail
      refine (l00In_any _ _ _ _).mono ?_
      rintro e w1 ⟨rfl, rfl⟩
      rw [← HF.out]
      go_wp2
      go_ret
      exact ⟨rfl, rfl⟩

theorem l06Way_any (P : Option Addr) (m d : Nat) (ts : List Int) (hm : m ≤ 1048576) (hts : ts.length = m) (A : Option Addr) (n c B : Nat) (l : List Int) (w : World) (h : Reads w B 1 A n (ints l)) (hn : n ≤ 1048576) :
    Calls Tryz.prog 39 #[.slice P m d, .slice A n c] w fun e w' => e = .returned (.bool (okWay ts l)) ∧ w = w' := by
  subst hts
  have HL := Lib.hid (ints_len h)
  go_enter Tryz.func39, Tryz.ntmps39
  go_wp2
  go_loop [5] (fun i => ∃ k : Nat, k ≤ n ∧ i = .int .i64 k ∧ AllTo (fun x => inR x 0 ((ts.length : Int) - 1)) l k) (fun i => n - (intOf i).toNat)
  case atStart => exact ⟨0, Nat.zero_le _, rfl, AllTo.zero _ _⟩
  case round =>
    obtain ⟨k, hk, rfl, hall⟩ := hrel
    have HA := Lib.hid hall
    clear hall
    by_cases hlt : k < n
    · obtain ⟨x, b, off, he, rfl, hb, c0⟩ := int_at h hlt
      have HE := Lib.hid he
      clear he h
      go_wp2_with fail
      refine (l00In_any _ _ _ _).mono ?_
      rintro e w1 ⟨rfl, rfl⟩
      rcases ho : inR x 0 ((ts.length : Int) - 1) with _ | _
      · have HF := Lib.hid (show (okWay ts l) = false by simp only [okTimes, okWay, all_bad (p := fun x => inR x 0 ((ts.length : Int) - 1)) HE.out ho, Bool.and_false])
        go_wp2
        go_ret
        exact ⟨ret_bool HF.out.symm, rfl⟩
      · have HT := Lib.hid ho
        go_wp2
        go_round
        case rel => exact ⟨k + 1, by omega, by go_num, HA.out.step (p := fun x => inR x 0 ((ts.length : Int) - 1)) HE.out HT.out⟩
        case measure => simp [intOf]; omega
    · obtain rfl : k = n := by omega
      have HF := Lib.hid (show (okWay ts l) = inR k 1 12 by simp only [okTimes, okWay, HL.out, HA.out.done HL.out, Bool.and_true])
      go_wp2_with fail
      refine (l00In_any _ _ _ _).mono ?_
      rintro e w1 ⟨rfl, rfl⟩
      rw [← HF.out]
      go_wp2
      go_ret
      exact ⟨rfl, rfl⟩

end Go.Proofs.YtgcepomehgedfaaGreatDoor
