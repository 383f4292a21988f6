/- FnExactValidEntry: for all arguments the program's ValidEntry returns what the reference's returns; the arguments are left as they were. -/
import Derived.Test.YtpcdpmbmibimlaaEnA
set_option linter.unusedVariables false
namespace Go.Proofs.Ytpcdpmbmibimlaa.lawValidEntry
open Go.RowKit Go.Proofs.Ytpcdpmbmibimlaa

theorem walk (x0 : En) (w : World) (hx0 : x0.good) :
    Calls Try.prog 4 #[.agg #[.int .i64 x0.day, .string x0.what, .int .i64 x0.val]] w fun e w' => e = .returned (.bool true) ∧ Below w.heap.size w w' := by
  go_enter Try.func4, Try.ntmps4
  go_wp2_with fail
  obtain ⟨v0, hv0⟩ : ∃ y, w.alloc (.cells #[.int .i64 x0.day, .string x0.what, .int .i64 x0.val] 28) = y := ⟨_, rfl⟩
  rw [hv0]
  have b0 : Below w.heap.size w v0 := by rw [← hv0]; exact (Below.refl _ _).alloc (Nat.le_refl _) _
  have y0 : Blk v0 w.heap.size 28 #[.int .i64 x0.day, .string x0.what, .int .i64 x0.val] := by rw [← hv0]; exact Blk.new _ _ _
  clear hv0
  have z1 := b0.size
  have H1 := Lib.hid (bnext (Below.refl w.heap.size w) b0 (Nat.le_refl _))
  clear b0
  refine (szEntry_any _ _ _ (by omega) (by omega) hx0).mono ?_
  rintro e w2 ⟨r0, rfl, b2, hr0⟩
  have z2 := b2.size
  replace y0 := y0.on b2
  have H2 := Lib.hid (bnext H1.out b2 (Nat.le_refl _))
  clear b2
  rcases hr0 with hr0 | ⟨hr0, hq0, hs0, hg0⟩
  · go_wp2
    go_ret
    exact ⟨rfl, H2.out⟩
  · skip
    have hc0_0 := y0.cellAt 0 (by simp)
    have hc0_1 := y0.cellAt 1 (by simp)
    have hc0_2 := y0.cellAt 2 (by simp)
    go_wp2_with fail
    refine (toEntry_any _ _).mono ?_
    rintro e w3 ⟨rfl, b3⟩
    clear hc0_0 hc0_1 hc0_2
    have z3 := b3.size
    replace y0 := y0.on b3
    have H3 := Lib.hid (bnext H2.out b3 (Nat.le_refl _))
    clear b3
    go_wp2_with fail
    refine (specValidEntry_any x0 _   hx0 hg0).mono ?_
    rintro e w4 ⟨rfl, b4⟩
    have z4 := b4.size
    replace y0 := y0.on b4
    have H4 := Lib.hid (bnext H3.out b4 (Nat.le_refl _))
    clear b4
    have hc0_0 := y0.cellAt 0 (by simp)
    have hc0_1 := y0.cellAt 1 (by simp)
    have hc0_2 := y0.cellAt 2 (by simp)
    go_wp2_with fail
    refine (toEntry_any _ _).mono ?_
    rintro e w5 ⟨rfl, b5⟩
    clear hc0_0 hc0_1 hc0_2
    have z5 := b5.size
    replace y0 := y0.on b5
    have H5 := Lib.hid (bnext H4.out b5 (Nat.le_refl _))
    clear b5
    go_wp2_with fail
    refine (implValidEntry_any x0 _   hx0 hg0).mono ?_
    rintro e w6 ⟨rfl, b6⟩
    have z6 := b6.size
    replace y0 := y0.on b6
    have H6 := Lib.hid (bnext H5.out b6 (Nat.le_refl _))
    clear b6
    go_wp2
    go_ret
    exact ⟨rfl, H6.out⟩

end Go.Proofs.Ytpcdpmbmibimlaa.lawValidEntry
