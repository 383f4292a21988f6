/- Runs tested by the program. -/
import Derived.Test.YtgcepomehgedfaaGreatDoorVdV
set_option linter.unusedVariables false
set_option linter.unusedSimpArgs false
namespace Go.Proofs.YtgcepomehgedfaaGreatDoor
open Go.RowKit

/-- The closure of ValidRuns: the times lie in a box. -/
theorem validRuns1_any (P : Option Addr) (m d : Nat) (ts : List Int) (A : Option Addr) (n c B g : Nat) (r : Rn) (w : World) (h : Reads w B 1 A n (ints r.way)) (hB : B ≤ w.heap.size) (hn : n ≤ 1048576) (hm : m ≤ 1048576) (hts : ts.length = m) (k0 : w.cell? ⟨g, 0, none⟩ = some (.slice P m d)) :
    Calls Tryz.prog 49 #[.agg #[.slice A n c, .int .i64 r.st], .pointer (some ⟨g, 0, none⟩)] w fun e w' => e = .returned (.bool (!okRun ts r)) ∧ Below w.heap.size w w' := by
  obtain ⟨W, hW, y0, hb⟩ : ∃ W, W = w.alloc (.cells #[.slice A n c, .int .i64 r.st] 65) ∧ Blk W w.heap.size 65 #[.slice A n c, .int .i64 r.st] ∧ Below w.heap.size w W := ⟨_, rfl, Blk.new _ _ _, (Below.refl _ _).alloc (Nat.le_refl _) _⟩
  have HW := Lib.hid hW
  have HB := Lib.hid hb
  replace k0 := cell_on hb k0
  have c0 := y0.cellAt 0 (by simp)
  have HY := Lib.hid y0
  simp only [List.getElem_toArray, List.getElem_cons_zero] at c0
  have HR := Lib.hid (h.on hB hb)
  clear hW hb y0 h
  go_enter Tryz.func49, Tryz.ntmps49
  go_upto_region 1 with fail
  rw [← HW.out]
  go_wp2_with fail
  refine (isRunWay_any P m d ts hm hts A n c B r.way W HR.out (Nat.le_trans hB HB.out.size) hn).mono ?_
  rintro e w1 ⟨rfl, b1⟩
  have HB1 := Lib.hid (bnext HB.out b1 (Nat.le_refl _))
  have c1 := (HY.out.on b1).cellAt 1 (by simp)
  simp only [List.getElem_toArray, List.getElem_cons_zero, List.getElem_cons_succ] at c1
  clear b1
  rcases e1 : okWay ts r.way with _ | _
  · have HO := Lib.hid (show (!okRun ts r) = true by simp [okRun, e1])
    go_wp2
    go_ret
    exact ⟨ret_bool HO.out.symm, HB1.out⟩
  have HO := Lib.hid (show (!okRun ts r) = !inR r.st 0 100000 by simp [okRun, e1])
  go_wp2_with fail
  refine (within_any _ _ _ _).mono ?_
  rintro e w2 ⟨rfl, rfl⟩
  go_wp2
  go_ret
  exact ⟨ret_bool HO.out.symm, HB1.out⟩
end Go.Proofs.YtgcepomehgedfaaGreatDoor
