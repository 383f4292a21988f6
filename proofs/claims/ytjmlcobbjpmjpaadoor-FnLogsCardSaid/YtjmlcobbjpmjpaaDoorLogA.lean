/- CheckLog and RecoverLog, both sides. -/
import Derived.Test.YtjmlcobbjpmjpaaDoorRead
set_option linter.unusedVariables false
set_option linter.unusedSimpArgs false
namespace Go.Proofs.YtjmlcobbjpmjpaaDoor
open Go.RowKit Go.Lib

theorem field_at (A : Option Addr) (n d : Nat) (p v : Int) : ∀ W : World, (Instr.field 79 (.agg #[.slice A n d, .int .i64 p, .int .i64 v]) 2).run Tryd.prog W = .ok (.int .i64 v) W := fun _ => by kernel_rfl

def checkF (s : ByteArray) : Int × Int := if 4000 < s.size then (0, 5) else (((logR s).at_ : Int), 0)
theorem checkF_full {s : ByteArray} (h : 4000 < s.size) : checkF s = (0, 5) := by simp [checkF, h]
theorem checkF_ok {s : ByteArray} (h : ¬ 4000 < s.size) : checkF s = (((logR s).at_ : Int), 0) := by simp only [checkF, h, if_false]
set_option maxHeartbeats 4000000 in
set_option maxRecDepth 100000 in
theorem implCheckLog_any (s : ByteArray) (m : Int) (w : World) (hs : s.size ≤ 1048576) (hm : w.cell? ⟨1, 0, none⟩ = some (.int .i64 m)) (ht : TabP w) (hv : SynP w) :
    Calls Tryd.prog 24 #[.string s] w fun e w' => e = .returned (.tuple #[.int .i64 (checkF s).1, .int .i64 (checkF s).2]) ∧ Below w.heap.size w w' := by
  by_cases h4 : 4000 < s.size
  · have h4i : (4000 : Int) < (s.size : Int) := by omega
    have HO := Lib.hid (checkF_full h4)
    clear ht hv hm
    go_enter Tryd.func24, Tryd.ntmps24
    go_wp2
    go_ret2
    rw [HO.out]
    exact ⟨rfl, Below.refl _ _⟩
  · have h4i : ¬ ((4000 : Int) < (s.size : Int)) := by omega
    have HO := Lib.hid (checkF_ok h4)
    have HC := Lib.hid (readLog_any s m w hs hm ht hv)
    clear ht hv hm
    go_enter Tryd.func24, Tryd.ntmps24
    go_wp2_with fail
    refine HC.out.mono ?_
    rintro e w1 ⟨A, n, d, rfl, hsl, b1⟩
    have HB := Lib.hid b1
    have hfd := field_at A n d (logR s).stamp ((logR s).at_ : Int)
    clear hsl b1
    go_wp2
    go_ret2
    rw [HO.out]
    exact ⟨rfl, HB.out⟩

def recF (s : ByteArray) : ByteArray × Int × Int := if 4000 < s.size then (⟨#[]⟩, 0, 5) else (s.extract 0 (logR s).at_, (s.size : Int) - ((logR s).at_ : Int), 0)
theorem recF_full {s : ByteArray} (h : 4000 < s.size) : recF s = (⟨#[]⟩, 0, 5) := by simp [recF, h]
theorem recF_ok {s : ByteArray} (h : ¬ 4000 < s.size) : recF s = (s.extract 0 (logR s).at_, (s.size : Int) - ((logR s).at_ : Int), 0) := by simp only [recF, h, if_false]
theorem recF_size (s : ByteArray) : (recF s).1.size ≤ s.size := by
  unfold recF
  split
  · exact Nat.zero_le _
  · rw [ByteArray.size_extract]; omega
set_option maxHeartbeats 4000000 in
set_option maxRecDepth 100000 in
theorem implRecoverLog_any (s : ByteArray) (m : Int) (w : World) (hs : s.size ≤ 1048576) (hm : w.cell? ⟨1, 0, none⟩ = some (.int .i64 m)) (ht : TabP w) (hv : SynP w) :
    Calls Tryd.prog 23 #[.string s] w fun e w' => e = .returned (.tuple #[.string (recF s).1, .int .i64 (recF s).2.1, .int .i64 (recF s).2.2]) ∧ Below w.heap.size w w' := by
  by_cases h4 : 4000 < s.size
  · have h4i : (4000 : Int) < (s.size : Int) := by omega
    have HO := Lib.hid (recF_full h4)
    clear ht hv hm
    go_enter Tryd.func23, Tryd.ntmps23
    go_wp2
    go_ret3
    rw [HO.out]
    exact ⟨rfl, Below.refl _ _⟩
  · have h4i : ¬ ((4000 : Int) < (s.size : Int)) := by omega
    have HO := Lib.hid (recF_ok h4)
    have hat := logR_at s
    have HC := Lib.hid (readLog_any s m w hs hm ht hv)
    clear ht hv hm
    go_enter Tryd.func23, Tryd.ntmps23
    go_wp2_with fail
    refine HC.out.mono ?_
    rintro e w1 ⟨A, n, d, rfl, hsl, b1⟩
    have HB := Lib.hid b1
    have hfd := field_at A n d (logR s).stamp ((logR s).at_ : Int)
    clear hsl b1
    obtain ⟨v, hv⟩ : ∃ v, (logR s).at_ = v := ⟨_, rfl⟩
    rw [hv] at hat HO hfd ⊢
    have h0 : (0 : Int) ≤ (v : Int) := by omega
    have h1 : (v : Int) ≤ (s.size : Int) := by omega
    have hw : IntKind.i64.wrap ((s.size : Int) - (v : Int)) = (s.size : Int) - (v : Int) := by
      unfold IntKind.wrap; simp [IntKind.bits, IntKind.signed]; omega
    clear hv
    go_wp2
    go_ret3
    rw [HO.out]
    exact ⟨rfl, HB.out⟩
end Go.Proofs.YtjmlcobbjpmjpaaDoor
