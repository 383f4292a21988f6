/- FnExactSameBookings: for all arguments the program's SameBookings returns what the reference's returns; the arguments are left as they were. -/
import Derived.Test.YtpcdpmbmibimlaaBkE
set_option linter.unusedVariables false
namespace Go.Proofs.Ytpcdpmbmibimlaa.lawSameBookings
open Go.RowKit Go.Proofs.Ytpcdpmbmibimlaa

theorem walk (A0 : Option Addr) (n0 c0 : Nat) (l0 : List Bk) (A1 : Option Addr) (n1 c1 : Nat) (l1 : List Bk) (w : World) (h0 : Reads w w.heap.size 3 A0 n0 (bks l0)) (hn0 : n0 ≤ 9223372036854775807) (hd0 : ∀ x ∈ l0, x.good) (h1 : Reads w w.heap.size 3 A1 n1 (bks l1)) (hn1 : n1 ≤ 9223372036854775807) (hd1 : ∀ x ∈ l1, x.good) :
    Calls Try.prog 6 #[.slice A0 n0 c0, .slice A1 n1 c1] w fun e w' => e = .returned (.bool true) ∧ Below w.heap.size w w' := by
  go_enter Try.func6, Try.ntmps6
  go_wp2_with fail
  refine (szBookingS_any _ _ _ l0 _ w.heap.size _ (h0.on (Nat.le_refl _) (Below.refl w.heap.size w)) (by omega) (by omega) hn0 (Below.refl w.heap.size w).size hd0).mono ?_
  rintro e w1 ⟨r0, rfl, b1, hr0⟩
  have z1 := b1.size
  have H1 := Lib.hid (bnext (Below.refl w.heap.size w) b1 (Nat.le_refl _))
  clear b1
  rcases hr0 with hr0 | ⟨hr0, hq0, hs0, hg0⟩
  · go_wp2
    go_ret
    exact ⟨rfl, H1.out⟩
  · have hm0 : n0 ≤ 1048576 := by omega
    go_wp2_with fail
    refine (szBookingS_any _ _ _ l1 _ w.heap.size _ (h1.on (Nat.le_refl _) H1.out) (by omega) (by omega) hn1 H1.out.size hd1).mono ?_
    rintro e w2 ⟨r1, rfl, b2, hr1⟩
    have z2 := b2.size
    have H2 := Lib.hid (bnext H1.out b2 (Nat.le_refl _))
    clear b2
    rcases hr1 with hr1 | ⟨hr1, hq1, hs1, hg1⟩
    · go_wp2
      go_ret
      exact ⟨rfl, H2.out⟩
    · have hm1 : n1 ≤ 1048576 := by omega
      go_wp2_with fail
      refine (toBookingS_any _ _ _ w.heap.size l0 _ (h0.on (Nat.le_refl _) H2.out) H2.out.size hm0).mono ?_
      rintro e w3 ⟨g3, rfl, s3, b3⟩
      have z3 := b3.size
      have H3 := Lib.hid (bnext H2.out b3 (Nat.le_refl _))
      clear b3
      go_wp2_with fail
      refine (toBookingS_any _ _ _ w.heap.size l1 _ (h1.on (Nat.le_refl _) H3.out) H3.out.size hm1).mono ?_
      rintro e w4 ⟨g4, rfl, s4, b4⟩
      have z4 := b4.size
      replace s3 := s3.on b4
      have H4 := Lib.hid (bnext H3.out b4 (Nat.le_refl _))
      clear b4
      go_wp2_with fail
      refine (specSameBookings_any _ _ _ l0 _ _ _ l1 _ _ (s3.reads (by omega)) (s4.reads (by omega)) (Nat.le_refl _) hm0 hg0 hm1 hg1).mono ?_
      rintro e w5 ⟨rfl, b5⟩
      have z5 := b5.size
      replace s3 := s3.on b5
      replace s4 := s4.on b5
      have H5 := Lib.hid (bnext H4.out b5 (Nat.le_refl _))
      clear b5
      clear s3
      clear s4
      go_wp2_with fail
      refine (toBookingS_any _ _ _ w.heap.size l0 _ (h0.on (Nat.le_refl _) H5.out) H5.out.size hm0).mono ?_
      rintro e w6 ⟨g6, rfl, s6, b6⟩
      have z6 := b6.size
      have H6 := Lib.hid (bnext H5.out b6 (Nat.le_refl _))
      clear b6
      go_wp2_with fail
      refine (toBookingS_any _ _ _ w.heap.size l1 _ (h1.on (Nat.le_refl _) H6.out) H6.out.size hm1).mono ?_
      rintro e w7 ⟨g7, rfl, s7, b7⟩
      have z7 := b7.size
      replace s6 := s6.on b7
      have H7 := Lib.hid (bnext H6.out b7 (Nat.le_refl _))
      clear b7
      go_wp2_with fail
      refine (implSameBookings_any _ _ _ l0 _ _ _ l1 _ _ (s6.reads (by omega)) (s7.reads (by omega)) (Nat.le_refl _) hm0 hg0 hm1 hg1).mono ?_
      rintro e w8 ⟨rfl, b8⟩
      have z8 := b8.size
      replace s6 := s6.on b8
      replace s7 := s7.on b8
      have H8 := Lib.hid (bnext H7.out b8 (Nat.le_refl _))
      clear b8
      go_wp2_with fail
      refine (toBookingS_any _ _ _ w.heap.size l0 _ (h0.on (Nat.le_refl _) H8.out) H8.out.size hm0).mono ?_
      rintro e w9 ⟨g9, rfl, s9, b9⟩
      have z9 := b9.size
      replace s6 := s6.on b9
      replace s7 := s7.on b9
      have H9 := Lib.hid (bnext H8.out b9 (Nat.le_refl _))
      clear b9
      go_wp2_with fail
      refine (eqBookingS_same _ _ _ _ _ _ l0 _ (s6.reads (by omega)) (s9.reads (by omega)) hm0 (Nat.le_refl _)).mono ?_
      rintro e w10 ⟨rfl, b10⟩
      have z10 := b10.size
      replace s6 := s6.on b10
      replace s7 := s7.on b10
      replace s9 := s9.on b10
      have H10 := Lib.hid (bnext H9.out b10 (Nat.le_refl _))
      clear b10
      clear s9
      clear s6
      go_wp2_with fail
      refine (toBookingS_any _ _ _ w.heap.size l1 _ (h1.on (Nat.le_refl _) H10.out) H10.out.size hm1).mono ?_
      rintro e w11 ⟨g11, rfl, s11, b11⟩
      have z11 := b11.size
      replace s7 := s7.on b11
      have H11 := Lib.hid (bnext H10.out b11 (Nat.le_refl _))
      clear b11
      go_wp2_with fail
      refine (eqBookingS_same _ _ _ _ _ _ l1 _ (s7.reads (by omega)) (s11.reads (by omega)) hm1 (Nat.le_refl _)).mono ?_
      rintro e w12 ⟨rfl, b12⟩
      have z12 := b12.size
      replace s7 := s7.on b12
      replace s11 := s11.on b12
      have H12 := Lib.hid (bnext H11.out b12 (Nat.le_refl _))
      clear b12
      clear s11
      clear s7
      go_wp2
      go_ret
      exact ⟨rfl, H12.out⟩

end Go.Proofs.Ytpcdpmbmibimlaa.lawSameBookings
