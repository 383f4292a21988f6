/- FnExactAddEntry: for all arguments the program's AddEntry returns what the reference's returns; the arguments are left as they were. -/
import Derived.Test.YtafbehpgnmdglaaDoorLogC
set_option linter.unusedVariables false
namespace Go.Proofs.YtafbehpgnmdglaaDoor.lawAddEntry
open Go.RowKit Go.Proofs.YtafbehpgnmdglaaDoor

theorem walk (s0 : ByteArray) (x1 : En) (w : World) (hz0 : s0.size ≤ 9223372036854775807) (hx1 : x1.good) (m : Int) (hm : w.cell? ⟨0, 0, none⟩ = some (.int .i64 m)) (ht : TabP w) (hv : SynP w) :
    Calls Tryd.prog 12 #[.string s0, .agg #[.int .i64 x1.day, .string x1.what, .int .i64 x1.val]] w fun e w' => e = .returned (.bool true) ∧ Below w.heap.size w w' := by
  have HT := Lib.hid ht
  clear ht
  have HM := Lib.hid hm
  have HV := Lib.hid hv
  clear hm hv
  go_enter Tryd.func12, Tryd.ntmps12
  rcases Nat.lt_or_ge 1048576 s0.size with hq0 | hq0
  · have hy0 : decide ((1048576 : Int) < (s0.size : Int)) = true := decide_eq_true (by omega)
    go_wp2
    go_ret
    first | exact ⟨rfl, Below.refl _ _⟩ | exact ⟨rfl, (Below.refl _ _).alloc (Nat.le_refl _) _⟩
  · have hy0 : decide ((1048576 : Int) < (s0.size : Int)) = false := decide_eq_false (by omega)
    go_wp2_with fail
    obtain ⟨v1, hv1⟩ : ∃ y, w.alloc (.cells #[.int .i64 x1.day, .string x1.what, .int .i64 x1.val] 37) = y := ⟨_, rfl⟩
    rw [hv1]
    have b1 : Below w.heap.size w v1 := by rw [← hv1]; exact (Below.refl _ _).alloc (Nat.le_refl _) _
    have y1 : Blk v1 w.heap.size 37 #[.int .i64 x1.day, .string x1.what, .int .i64 x1.val] := by rw [← hv1]; exact Blk.new _ _ _
    clear hv1
    have z1 := b1.size
    have H1 := Lib.hid (bnext (Below.refl w.heap.size w) b1 (Nat.le_refl _))
    clear b1
    refine (szEntry_any _ _ _ (by omega) (by omega) hx1).mono ?_
    rintro e w2 ⟨r1, rfl, b2, hr1⟩
    have z2 := b2.size
    replace y1 := y1.on b2
    have H2 := Lib.hid (bnext H1.out b2 (Nat.le_refl _))
    clear b2
    rcases hr1 with hr1 | ⟨hr1, hq1, hs1, hg1⟩
    · go_wp2
      go_ret
      exact ⟨rfl, H2.out⟩
    · skip
      have hc1_0 := y1.cellAt 0 (by simp)
      have hc1_1 := y1.cellAt 1 (by simp)
      have hc1_2 := y1.cellAt 2 (by simp)
      go_wp2_with fail
      refine (toEntry_any _ _).mono ?_
      rintro e w3 ⟨rfl, b3⟩
      clear hc1_0 hc1_1 hc1_2
      have z3 := b3.size
      replace y1 := y1.on b3
      have H3 := Lib.hid (bnext H2.out b3 (Nat.le_refl _))
      clear b3
      go_wp2_with fail
      refine (specAddEntry_any _ x1 _   hq0 hx1 hg1).mono ?_
      rintro e w4 ⟨rfl, b4⟩
      have z4 := b4.size
      replace y1 := y1.on b4
      have H4 := Lib.hid (bnext H3.out b4 (Nat.le_refl _))
      clear b4
      have hc1_0 := y1.cellAt 0 (by simp)
      have hc1_1 := y1.cellAt 1 (by simp)
      have hc1_2 := y1.cellAt 2 (by simp)
      go_wp2_with fail
      refine (toEntry_any _ _).mono ?_
      rintro e w5 ⟨rfl, b5⟩
      clear hc1_0 hc1_1 hc1_2
      have z5 := b5.size
      replace y1 := y1.on b5
      have H5 := Lib.hid (bnext H4.out b5 (Nat.le_refl _))
      clear b5
      go_wp2_with fail
      refine (implAddEntry_any _ x1 m _   hq0 hx1 hg1 (cell_on H5.out HM.out) (tabUp HT.out H5.out) (synUp HV.out H5.out)).mono ?_
      rintro e w6 ⟨rfl, b6⟩
      have z6 := b6.size
      replace y1 := y1.on b6
      have H6 := Lib.hid (bnext H5.out b6 (Nat.le_refl _))
      clear b6
      go_wp2
      go_ret
      exact ⟨rfl, H6.out⟩

end Go.Proofs.YtafbehpgnmdglaaDoor.lawAddEntry
