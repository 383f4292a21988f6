/- FnExactCompareDays: for all arguments the program's CompareDays returns what the reference's returns; the arguments are left as they were. -/
import Derived.Test.YtpcdpmbmibimlaaEvQ
import Derived.Test.YtpcdpmbmibimlaaEvOpen
set_option linter.unusedVariables false
namespace Go.Proofs.Ytpcdpmbmibimlaa.lawCompareDays
open Go.RowKit Go.Proofs.Ytpcdpmbmibimlaa

theorem walk (A0 : Option Addr) (n0 c0 : Nat) (l0 : List Ev) (A1 : Option Addr) (n1 c1 : Nat) (l1 : List Ev) (w : World) (h0 : Reads w w.heap.size 2 A0 n0 (evs l0)) (hn0 : n0 ≤ 9223372036854775807) (h1 : Reads w w.heap.size 2 A1 n1 (evs l1)) (hn1 : n1 ≤ 9223372036854775807) :
    Calls Try.prog 7 #[.slice A0 n0 c0, .slice A1 n1 c1] w fun e w' => e = .returned (.bool true) ∧ Below w.heap.size w w' := by
  go_enter Try.func7, Try.ntmps7
  go_wp2_with fail
  refine (szEventS_any _ _ _ l0 _ w.heap.size _ h0 (by omega) (by omega) hn0).mono ?_
  rintro e w0 ⟨r0, rfl, rfl, hr0⟩
  rcases hr0 with hr0 | ⟨hr0, hq0, hs0, hg0⟩
  · go_wp2
    go_ret
    exact ⟨rfl, Below.refl _ _⟩
  · have hm0 : n0 ≤ 1048576 := by omega
    go_wp2_with fail
    refine (szEventS_any _ _ _ l1 _ w.heap.size _ h1 (by omega) (by omega) hn1).mono ?_
    rintro e w0 ⟨r1, rfl, rfl, hr1⟩
    rcases hr1 with hr1 | ⟨hr1, hq1, hs1, hg1⟩
    · go_wp2
      go_ret
      exact ⟨rfl, Below.refl _ _⟩
    · have hm1 : n1 ≤ 1048576 := by omega
      go_wp2_with fail
      refine (toEventS_any _ _ _ w.heap.size l0 _ (h0.on (Nat.le_refl _) (Below.refl w.heap.size w)) (Below.refl w.heap.size w).size hm0).mono ?_
      rintro e w1 ⟨g1, rfl, s1, b1⟩
      have z1 := b1.size
      have H1 := Lib.hid (bnext (Below.refl w.heap.size w) b1 (Nat.le_refl _))
      clear b1
      go_wp2_with fail
      refine (toEventS_any _ _ _ w.heap.size l1 _ (h1.on (Nat.le_refl _) H1.out) H1.out.size hm1).mono ?_
      rintro e w2 ⟨g2, rfl, s2, b2⟩
      have z2 := b2.size
      replace s1 := s1.on b2
      have H2 := Lib.hid (bnext H1.out b2 (Nat.le_refl _))
      clear b2
      go_wp2_with fail
      refine (specCompareDays_any _ _ _ l0 _ _ _ l1 _ _ (s1.reads (by omega)) (s2.reads (by omega)) (Nat.le_refl _) hm0 hm1).mono ?_
      rintro e w3 ⟨rfl, b3⟩
      have z3 := b3.size
      replace s1 := s1.on b3
      replace s2 := s2.on b3
      have H3 := Lib.hid (bnext H2.out b3 (Nat.le_refl _))
      clear b3
      clear s1
      clear s2
      go_wp2_with fail
      refine (toEventS_any _ _ _ w.heap.size l0 _ (h0.on (Nat.le_refl _) H3.out) H3.out.size hm0).mono ?_
      rintro e w4 ⟨g4, rfl, s4, b4⟩
      have z4 := b4.size
      have H4 := Lib.hid (bnext H3.out b4 (Nat.le_refl _))
      clear b4
      go_wp2_with fail
      refine (toEventS_any _ _ _ w.heap.size l1 _ (h1.on (Nat.le_refl _) H4.out) H4.out.size hm1).mono ?_
      rintro e w5 ⟨g5, rfl, s5, b5⟩
      have z5 := b5.size
      replace s4 := s4.on b5
      have H5 := Lib.hid (bnext H4.out b5 (Nat.le_refl _))
      clear b5
      go_wp2_with fail
      refine (implCompareDays_any _ _ _ l0 _ _ _ l1 _ _ (s4.reads (by omega)) (s5.reads (by omega)) (Nat.le_refl _) hm0 hm1).mono ?_
      rintro e w6 ⟨rfl, b6⟩
      have z6 := b6.size
      replace s4 := s4.on b6
      replace s5 := s5.on b6
      have H6 := Lib.hid (bnext H5.out b6 (Nat.le_refl _))
      clear b6
      go_wp2_with fail
      refine (toEventS_any _ _ _ w.heap.size l0 _ (h0.on (Nat.le_refl _) H6.out) H6.out.size hm0).mono ?_
      rintro e w7 ⟨g7, rfl, s7, b7⟩
      have z7 := b7.size
      replace s4 := s4.on b7
      replace s5 := s5.on b7
      have H7 := Lib.hid (bnext H6.out b7 (Nat.le_refl _))
      clear b7
      go_wp2_with fail
      refine (eqEventS_same _ _ _ _ _ _ l0 _ (s4.reads (by omega)) (s7.reads (by omega)) hm0 (Nat.le_refl _)).mono ?_
      rintro e w8 ⟨rfl, b8⟩
      have z8 := b8.size
      replace s4 := s4.on b8
      replace s5 := s5.on b8
      replace s7 := s7.on b8
      have H8 := Lib.hid (bnext H7.out b8 (Nat.le_refl _))
      clear b8
      clear s7
      clear s4
      go_wp2_with fail
      refine (toEventS_any _ _ _ w.heap.size l1 _ (h1.on (Nat.le_refl _) H8.out) H8.out.size hm1).mono ?_
      rintro e w9 ⟨g9, rfl, s9, b9⟩
      have z9 := b9.size
      replace s5 := s5.on b9
      have H9 := Lib.hid (bnext H8.out b9 (Nat.le_refl _))
      clear b9
      go_wp2_with fail
      refine (eqEventS_same _ _ _ _ _ _ l1 _ (s5.reads (by omega)) (s9.reads (by omega)) hm1 (Nat.le_refl _)).mono ?_
      rintro e w10 ⟨rfl, b10⟩
      have z10 := b10.size
      replace s5 := s5.on b10
      replace s9 := s9.on b10
      have H10 := Lib.hid (bnext H9.out b10 (Nat.le_refl _))
      clear b10
      clear s9
      clear s5
      go_wp2
      go_ret
      exact ⟨rfl, H10.out⟩

end Go.Proofs.Ytpcdpmbmibimlaa.lawCompareDays
