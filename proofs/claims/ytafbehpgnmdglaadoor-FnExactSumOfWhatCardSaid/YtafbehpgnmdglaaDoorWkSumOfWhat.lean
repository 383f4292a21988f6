/- FnExactSumOfWhat: for all arguments the program's SumOfWhat returns what the reference's returns; the arguments are left as they were. -/
import Derived.Test.YtafbehpgnmdglaaDoorLogS
set_option linter.unusedVariables false
namespace Go.Proofs.YtafbehpgnmdglaaDoor.lawSumOfWhat
open Go.RowKit Go.Proofs.YtafbehpgnmdglaaDoor

theorem walk (s0 : ByteArray) (s1 : ByteArray) (x2 : Int) (x3 : Int) (w : World) (hz0 : s0.size ≤ 9223372036854775807) (hz1 : s1.size ≤ 9223372036854775807) (hx2 : I64 x2) (hx3 : I64 x3) (m : Int) (hm : w.cell? ⟨0, 0, none⟩ = some (.int .i64 m)) (ht : TabP w) (hv : SynP w) :
    Calls Tryd.prog 11 #[.string s0, .string s1, .int .i64 x2, .int .i64 x3] w fun e w' => e = .returned (.bool true) ∧ Below w.heap.size w w' := by
  have HT := Lib.hid ht
  clear ht
  have HM := Lib.hid hm
  have HV := Lib.hid hv
  clear hm hv
  go_enter Tryd.func11, Tryd.ntmps11
  rcases Nat.lt_or_ge 1048576 s0.size with hq0 | hq0
  · have hy0 : decide ((1048576 : Int) < (s0.size : Int)) = true := decide_eq_true (by omega)
    go_wp2
    go_ret
    first | exact ⟨rfl, Below.refl _ _⟩ | exact ⟨rfl, (Below.refl _ _).alloc (Nat.le_refl _) _⟩
  · have hy0 : decide ((1048576 : Int) < (s0.size : Int)) = false := decide_eq_false (by omega)
    rcases Nat.lt_or_ge 1048576 s1.size with hq1 | hq1
    · have hy1 : decide ((1048576 : Int) < (s1.size : Int)) = true := decide_eq_true (by omega)
      go_wp2
      go_ret
      first | exact ⟨rfl, Below.refl _ _⟩ | exact ⟨rfl, (Below.refl _ _).alloc (Nat.le_refl _) _⟩
    · have hy1 : decide ((1048576 : Int) < (s1.size : Int)) = false := decide_eq_false (by omega)
      go_wp2_with fail
      refine (specSumOfWhat_any _ _ _ _ _   hq0 hq1 hx2 hx3).mono ?_
      rintro e w1 ⟨rfl, b1⟩
      have z1 := b1.size
      have H1 := Lib.hid (bnext (Below.refl w.heap.size w) b1 (Nat.le_refl _))
      clear b1
      go_wp2_with fail
      refine (implSumOfWhat_any _ _ _ _ m _   hq0 hq1 hx2 hx3 (cell_on H1.out HM.out) (tabUp HT.out H1.out) (synUp HV.out H1.out)).mono ?_
      rintro e w2 ⟨rfl, b2⟩
      have z2 := b2.size
      have H2 := Lib.hid (bnext H1.out b2 (Nat.le_refl _))
      clear b2
      go_wp2
      go_ret
      exact ⟨rfl, H2.out⟩

end Go.Proofs.YtafbehpgnmdglaaDoor.lawSumOfWhat
