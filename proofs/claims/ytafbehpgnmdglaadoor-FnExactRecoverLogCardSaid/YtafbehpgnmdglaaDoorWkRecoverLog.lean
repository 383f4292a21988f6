/- FnExactRecoverLog: for all arguments the program's RecoverLog returns what the reference's returns. -/
import Derived.Test.YtafbehpgnmdglaaDoorLogA
set_option linter.unusedVariables false
namespace Go.Proofs.YtafbehpgnmdglaaDoor.lawRecoverLog
open Go.RowKit Go.Proofs.YtafbehpgnmdglaaDoor

set_option maxHeartbeats 4000000 in
set_option maxRecDepth 100000 in
theorem walk (s : ByteArray) (w : World) (hz : s.size ≤ 9223372036854775807) (m : Int) (hm : w.cell? ⟨0, 0, none⟩ = some (.int .i64 m)) (ht : TabP w) (hv : SynP w) :
    Calls Tryd.prog 10 #[.string s] w fun e w' => e = .returned (.bool true) ∧ Below w.heap.size w w' := by
  have HT := Lib.hid ht
  have HV := Lib.hid hv
  have HM := Lib.hid hm
  clear ht hv hm
  by_cases h1 : 1048576 < s.size
  · have h1i : (1048576 : Int) < (s.size : Int) := by omega
    go_enter Tryd.func10, Tryd.ntmps10
    go_wp2
    go_ret
    exact ⟨rfl, Below.refl _ _⟩
  · have h1i : ¬ ((1048576 : Int) < (s.size : Int)) := by omega
    have hs : s.size ≤ 1048576 := by omega
    go_enter Tryd.func10, Tryd.ntmps10
    go_wp2_with fail
    refine (specRecoverLog_any s _ hs).mono ?_
    rintro e w1 ⟨rfl, b1⟩
    go_wp2_with fail
    refine (implRecoverLog_any s m _ hs (cell_on b1 HM.out) (tabUp HT.out b1) (synUp HV.out b1)).mono ?_
    rintro e w2 ⟨rfl, b2⟩
    have HF := Lib.hid (bnext b1 b2 (Nat.le_refl _))
    clear b1 b2
    obtain ⟨v1, hv1⟩ : ∃ v, (recF s).1 = v := ⟨_, rfl⟩
    obtain ⟨v2, hv2⟩ : ∃ v, (recF s).2.1 = v := ⟨_, rfl⟩
    obtain ⟨v3, hv3⟩ : ∃ v, (recF s).2.2 = v := ⟨_, rfl⟩
    rw [hv1, hv2, hv3]
    clear hv1 hv2 hv3
    go_wp2
    go_ret
    exact ⟨rfl, HF.out⟩
end Go.Proofs.YtafbehpgnmdglaaDoor.lawRecoverLog
