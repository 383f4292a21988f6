/- Runs tested by the reference. -/
import Derived.Test.YtgcepomehgedfaaGreatDoorVdR
set_option linter.unusedVariables false
set_option linter.unusedSimpArgs false
namespace Go.Proofs.YtgcepomehgedfaaGreatDoor
open Go.RowKit

set_option maxHeartbeats 2000000 in
theorem l06Ok_any (P : Option Addr) (m d B : Nat) (ts : List Int) (A : Option Addr) (n c : Nat) (rs : List Rn) (w : World) (ht : Reads w B 1 P m (ints ts)) (h : RunsR w B A n rs) (hm : m ≤ 1048576) (hn : n ≤ 1048576) (hsm : SmallR rs) :
    Calls Tryz.prog 26 #[.slice P m d, .slice A n c] w fun e w' => e = .returned (.bool (okRuns ts rs)) ∧ w = w' := by
  have HL := Lib.hid h.len
  have HM := Lib.hid (ints_len ht)
  have HT := Lib.hid ht
  have HSM := Lib.hid hsm
  clear ht hsm
  go_enter Tryz.func26, Tryz.ntmps26
  go_wp2
  go_loop [5] (fun i => ∃ k : Nat, k ≤ n ∧ i = .int .i64 k ∧ AllTo (okRun ts) rs k) (fun i => n - (intOf i).toNat)
  case atStart => exact ⟨0, Nat.zero_le _, rfl, AllTo.zero _ _⟩
  case round =>
    obtain ⟨k, hk, rfl, hall⟩ := hrel
    have HA := Lib.hid hall
    clear hall
    by_cases hlt : k < n
    · obtain ⟨x, b, off, P', m', d', he, rfl, hb, c0, c1, hr, hm'⟩ := run_at h hlt
      have hm2 : m' ≤ 1048576 := by have := HSM.out k x he; have := ints_len hr; omega
      have HE := Lib.hid he
      have HR := Lib.hid hr
      clear he h hr
      go_wp2_with fail
      refine (l06Way_any P m d ts hm HM.out P' m' d' B x.way w HR.out hm2).mono ?_
      rintro e w1 ⟨rfl, rfl⟩
      rcases e1 : okWay ts x.way with _ | _
      · have HF := Lib.hid (show okRuns ts rs = false by simp only [okRuns, all_bad (p := okRun ts) HE.out (by simp [okRun, e1]), Bool.and_false])
        go_wp2
        go_ret
        exact ⟨ret_bool HF.out.symm, rfl⟩
      go_wp2_with fail
      refine (l06Start_any _ _).mono ?_
      rintro e w1 ⟨rfl, rfl⟩
      rcases e2 : inR x.st 0 100000 with _ | _
      · have HF := Lib.hid (show okRuns ts rs = false by simp only [okRuns, all_bad (p := okRun ts) HE.out (by simp [okRun, e2]), Bool.and_false])
        go_wp2
        go_ret
        exact ⟨ret_bool HF.out.symm, rfl⟩
      have HG := Lib.hid (show okRun ts x = true by simp [okRun, e1, e2])
      go_wp2
      go_round
      case rel => exact ⟨k + 1, by omega, by go_num, HA.out.step HE.out HG.out⟩
      case measure => simp [intOf]; omega
    · obtain rfl : k = n := by omega
      go_wp2_with fail
      refine (l06Times_any P m d B ts w HT.out hm).mono ?_
      rintro e w1 ⟨rfl, rfl⟩
      rcases e1 : okTimes ts with _ | _
      · have HF := Lib.hid (show okRuns ts rs = false by simp only [okRuns, e1, Bool.false_and])
        go_wp2
        go_ret
        exact ⟨ret_bool HF.out.symm, rfl⟩
      have HF := Lib.hid (show okRuns ts rs = decide ((k : Int) ≤ 12) by simp only [okRuns, e1, HL.out, HA.out.done HL.out, Bool.and_true, Bool.true_and]; rw [decide_eq_decide]; omega)
      go_wp2
      go_ret
      exact ⟨ret_bool HF.out.symm, rfl⟩
end Go.Proofs.YtgcepomehgedfaaGreatDoor
