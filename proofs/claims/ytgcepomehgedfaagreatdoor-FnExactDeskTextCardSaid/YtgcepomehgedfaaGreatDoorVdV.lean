/- Times and ways tested by the program. -/
import Derived.Test.YtgcepomehgedfaaGreatDoorVdU
set_option linter.unusedVariables false
set_option linter.unusedSimpArgs false
namespace Go.Proofs.YtgcepomehgedfaaGreatDoor
open Go.RowKit

theorem outside_any (A : Option Addr) (n c B : Nat) (l : List Int) (lo hi : Int) (w : World) (h : Reads w B 1 A n (ints l)) (hB : B ≤ w.heap.size) (hn : n ≤ 1048576) :
    Calls Tryz.prog 57 #[.slice A n c, .int .i64 lo, .int .i64 hi] w fun e w' => e = .returned (.bool (!l.all fun x => inR x lo hi)) ∧ Below w.heap.size w w' := by
  obtain ⟨W, hW, hz, k0, k1, hb⟩ := two_al w #[.int .i64 lo] #[.int .i64 hi] 2 2
  have HW := Lib.hid hW
  have HB := Lib.hid hb
  have c1 := k0.cellAt 0 (by simp)
  have c2 := k1.cellAt 0 (by simp)
  simp only [List.getElem_toArray, List.getElem_cons_zero] at c1 c2
  clear hW hz k0 k1 hb
  go_enter Tryz.func57, Tryz.ntmps57
  go_wp2_with fail
  rw [← HW.out]
  refine (containsFuncI_any A n c B l lo hi _ _ W (h.on hB HB.out) hn c1 c2).mono ?_
  rintro e w1 ⟨rfl, rfl⟩
  go_wp2
  go_ret
  exact ⟨rfl, HB.out⟩

theorem validTimes_any (A : Option Addr) (n c B : Nat) (l : List Int) (w : World) (h : Reads w B 1 A n (ints l)) (hB : B ≤ w.heap.size) (hn : n ≤ 1048576) :
    Calls Tryz.prog 47 #[.slice A n c] w fun e w' => e = .returned (.bool (okTimes l)) ∧ Below w.heap.size w w' := by
  have HL := Lib.hid (ints_len h)
  go_enter Tryz.func47, Tryz.ntmps47
  go_wp2_with fail
  refine (within_any _ _ _ _).mono ?_
  rintro e w1 ⟨rfl, rfl⟩
  rcases e1 : inR n 1 24 with _ | _
  · have HO := Lib.hid (show (okTimes l) = false by simp only [okTimes, okWay, HL.out, e1, Bool.false_and])
    go_wp2
    go_ret
    exact ⟨ret_bool HO.out.symm, Below.refl _ _⟩
  have HO := Lib.hid (show (okTimes l) = l.all (fun x => inR x 1 (1000)) by simp only [okTimes, okWay, HL.out, e1, Bool.true_and])
  go_wp2_with fail
  refine (outside_any A n c B l 1 (1000) w h hB hn).mono ?_
  rintro e w1 ⟨rfl, b1⟩
  go_wp2
  go_ret
  exact ⟨ret_bool (by rw [HO.out]; try simp), b1⟩

theorem isRunWay_any (P : Option Addr) (m d : Nat) (ts : List Int) (hm : m ≤ 1048576) (hts : ts.length = m) (A : Option Addr) (n c B : Nat) (l : List Int) (w : World) (h : Reads w B 1 A n (ints l)) (hB : B ≤ w.heap.size) (hn : n ≤ 1048576) :
    Calls Tryz.prog 50 #[.slice P m d, .slice A n c] w fun e w' => e = .returned (.bool (okWay ts l)) ∧ Below w.heap.size w w' := by
  subst hts
  have HL := Lib.hid (ints_len h)
  go_enter Tryz.func50, Tryz.ntmps50
  go_wp2_with fail
  refine (within_any _ _ _ _).mono ?_
  rintro e w1 ⟨rfl, rfl⟩
  rcases e1 : inR n 1 12 with _ | _
  · have HO := Lib.hid (show (okWay ts l) = false by simp only [okTimes, okWay, HL.out, e1, Bool.false_and])
    go_wp2
    go_ret
    exact ⟨ret_bool HO.out.symm, Below.refl _ _⟩
  have HO := Lib.hid (show (okWay ts l) = l.all (fun x => inR x 0 ((ts.length : Int) - 1)) by simp only [okTimes, okWay, HL.out, e1, Bool.true_and])
  go_wp2_with fail
  refine (outside_any A n c B l 0 ((ts.length : Int) - 1) w h hB hn).mono ?_
  rintro e w1 ⟨rfl, b1⟩
  go_wp2
  go_ret
  exact ⟨ret_bool (by rw [HO.out]; try simp), b1⟩
end Go.Proofs.YtgcepomehgedfaaGreatDoor
