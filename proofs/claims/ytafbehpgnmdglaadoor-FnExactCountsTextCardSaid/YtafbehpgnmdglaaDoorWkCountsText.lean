/- FnExactCountsText: for all arguments the program's CountsText returns what the reference's returns; the arguments are left as they were. -/
import Derived.Test.YtafbehpgnmdglaaDoorTxtEv
import Derived.Test.YtafbehpgnmdglaaDoorEvD
import Derived.Test.YtafbehpgnmdglaaDoorEvOpen
set_option linter.unusedVariables false
namespace Go.Proofs.YtafbehpgnmdglaaDoor.lawCountsText
open Go.RowKit Go.Proofs.YtafbehpgnmdglaaDoor

theorem walk (A0 : Option Addr) (n0 c0 : Nat) (l0 : List Ev) (w : World) (h0 : Reads w w.heap.size 2 A0 n0 (evs l0)) (hn0 : n0 ≤ 9223372036854775807) (ht : TabP w) :
    Calls Tryd.prog 6 #[.slice A0 n0 c0] w fun e w' => e = .returned (.bool true) ∧ Below w.heap.size w w' := by
  have HT := Lib.hid ht
  clear ht
  go_enter Tryd.func6, Tryd.ntmps6
  go_wp2_with fail
  refine (szEventS_any _ _ _ l0 _ w.heap.size _ (h0.on (Nat.le_refl _) (Below.refl w.heap.size w)) (by omega) (by omega) hn0).mono ?_
  rintro e w0 ⟨r0, rfl, rfl, hr0⟩
  rcases hr0 with hr0 | ⟨hr0, hq0, hs0, hg0⟩
  · go_wp2
    go_ret
    exact ⟨rfl, (Below.refl w.heap.size w)⟩
  · have hm0 : n0 ≤ 1048576 := by omega
    go_wp2_with fail
    refine (toEventS_any _ _ _ w.heap.size l0 _ (h0.on (Nat.le_refl _) (Below.refl w.heap.size w)) (Below.refl w.heap.size w).size hm0).mono ?_
    rintro e w1 ⟨g1, rfl, s1, b1⟩
    have z1 := b1.size
    have H1 := Lib.hid (bnext (Below.refl w.heap.size w) b1 (Nat.le_refl _))
    clear b1
    go_wp2_with fail
    refine (specCountsText_any _ _ _ l0 _ _ (s1.reads (by omega)) (Nat.le_refl _) hm0).mono ?_
    rintro e w2 ⟨rfl, b2⟩
    have z2 := b2.size
    replace s1 := s1.on b2
    have H2 := Lib.hid (bnext H1.out b2 (Nat.le_refl _))
    clear b2
    clear s1
    go_wp2_with fail
    refine (toEventS_any _ _ _ w.heap.size l0 _ (h0.on (Nat.le_refl _) H2.out) H2.out.size hm0).mono ?_
    rintro e w3 ⟨g3, rfl, s3, b3⟩
    have z3 := b3.size
    have H3 := Lib.hid (bnext H2.out b3 (Nat.le_refl _))
    clear b3
    go_wp2_with fail
    refine (implCountsText_any _ _ _ l0 _ _ (s3.reads (by omega)) (Nat.le_refl _) hm0 (tabUp HT.out H3.out)).mono ?_
    rintro e w4 ⟨rfl, b4⟩
    have z4 := b4.size
    replace s3 := s3.on b4
    have H4 := Lib.hid (bnext H3.out b4 (Nat.le_refl _))
    clear b4
    go_wp2_with fail
    refine (toEventS_any _ _ _ w.heap.size l0 _ (h0.on (Nat.le_refl _) H4.out) H4.out.size hm0).mono ?_
    rintro e w5 ⟨g5, rfl, s5, b5⟩
    have z5 := b5.size
    replace s3 := s3.on b5
    have H5 := Lib.hid (bnext H4.out b5 (Nat.le_refl _))
    clear b5
    go_wp2_with fail
    refine (eqEventS_same _ _ _ _ _ _ l0 _ (s3.reads (by omega)) (s5.reads (by omega)) hm0 (Nat.le_refl _)).mono ?_
    rintro e w6 ⟨rfl, b6⟩
    have z6 := b6.size
    replace s3 := s3.on b6
    replace s5 := s5.on b6
    have H6 := Lib.hid (bnext H5.out b6 (Nat.le_refl _))
    clear b6
    clear s5
    clear s3
    go_wp2
    go_ret
    exact ⟨rfl, H6.out⟩

end Go.Proofs.YtafbehpgnmdglaaDoor.lawCountsText
