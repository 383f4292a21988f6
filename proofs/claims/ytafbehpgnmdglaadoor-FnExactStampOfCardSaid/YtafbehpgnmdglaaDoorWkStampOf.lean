/- FnExactStampOf: for all arguments the program's StampOf returns what the reference's returns; the arguments are left as they were. -/
import Derived.Test.YtafbehpgnmdglaaDoorTxtEn
set_option linter.unusedVariables false
namespace Go.Proofs.YtafbehpgnmdglaaDoor.lawStampOf
open Go.RowKit Go.Proofs.YtafbehpgnmdglaaDoor

set_option maxHeartbeats 2000000 in
set_option maxRecDepth 100000 in
theorem walk (b : Int) (x : En) (w : World) (hb : I64 b) (hx : x.good) (ht : TabP w) :
    Calls Tryd.prog 5 #[.int .i64 b, .agg #[.int .i64 x.day, .string x.what, .int .i64 x.val]] w fun e w' => e = .returned (.bool true) ∧ Below w.heap.size w w' := by
  have HT := Lib.hid ht
  clear ht
  go_enter Tryd.func5, Tryd.ntmps5
  go_wp2_with fail
  obtain ⟨wq, hwq⟩ : ∃ y, w.alloc (.cells #[.int .i64 x.day, .string x.what, .int .i64 x.val] 37) = y := ⟨_, rfl⟩
  have bq : Below w.heap.size w wq := by rw [← hwq]; exact (Below.refl _ _).alloc (Nat.le_refl _) _
  have yq : Blk wq w.heap.size 37 #[.int .i64 x.day, .string x.what, .int .i64 x.val] := by rw [← hwq]; exact Blk.new _ _ _
  rw [hwq]
  clear hwq
  refine (szEntry_any x _ _ (by omega) (by omega) hx).mono ?_
  rintro e w1 ⟨r1, rfl, b1, hr1⟩
  have y1 := yq.on b1
  have H1 := Lib.hid (bnext bq b1 (Nat.le_refl _))
  clear bq b1 yq
  rcases hr1 with hr1 | ⟨hr1, hq1, hs1, hg1⟩
  · go_wp2
    go_ret
    exact ⟨rfl, H1.out⟩
  · have hc0 := y1.cellAt 0 (by simp)
    have hc1 := y1.cellAt 1 (by simp)
    have hc2 := y1.cellAt 2 (by simp)
    go_wp2_with fail
    refine (toEntry_any _ _).mono ?_
    rintro e w2 ⟨rfl, b2⟩
    have y2 := y1.on b2
    have H2 := Lib.hid (bnext H1.out b2 (Nat.le_refl _))
    clear b2 y1 hc0 hc1 hc2
    go_wp2_with fail
    refine (specStampOf_any b x _ hx hg1).mono ?_
    rintro e w3 ⟨rfl, b3⟩
    have y3 := y2.on b3
    have H3 := Lib.hid (bnext H2.out b3 (Nat.le_refl _))
    clear b3 y2
    have hc0 := y3.cellAt 0 (by simp)
    have hc1 := y3.cellAt 1 (by simp)
    have hc2 := y3.cellAt 2 (by simp)
    go_wp2_with fail
    refine (toEntry_any _ _).mono ?_
    rintro e w4 ⟨rfl, b4⟩
    have H4 := Lib.hid (bnext H3.out b4 (Nat.le_refl _))
    clear b4 y3 hc0 hc1 hc2
    go_wp2_with fail
    refine (implStampOf_any b x _ hx hg1 (tabUp HT.out H4.out)).mono ?_
    rintro e w5 ⟨rfl, b5⟩
    have H5 := Lib.hid (bnext H4.out b5 (Nat.le_refl _))
    clear b5
    go_wp2
    go_ret
    exact ⟨rfl, H5.out⟩
end Go.Proofs.YtafbehpgnmdglaaDoor.lawStampOf
