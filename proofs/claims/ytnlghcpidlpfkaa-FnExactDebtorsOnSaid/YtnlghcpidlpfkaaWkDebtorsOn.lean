/- FnExactDebtorsOn: for all arguments the program's DebtorsOn returns what the reference's returns; the arguments are left as they were. -/
import Derived.Test.YtnlghcpidlpfkaaDbL
import Derived.Test.YtnlghcpidlpfkaaBkE
import Derived.Test.YtnlghcpidlpfkaaStrS
set_option linter.unusedVariables false
namespace Go.Proofs.Ytnlghcpidlpfkaa.lawDebtorsOn
open Go.RowKit Go.Proofs.Ytnlghcpidlpfkaa

theorem walk (A0 : Option Addr) (n0 c0 : Nat) (l0 : List Bk) (x1 : Int) (w : World) (h0 : Reads w w.heap.size 3 A0 n0 (bks l0)) (hn0 : n0 ≤ 9223372036854775807) (hd0 : ∀ x ∈ l0, x.good) (hx1 : I64 x1) :
    Calls Try.prog 8 #[.slice A0 n0 c0, .int .i64 x1] w fun e w' => e = .returned (.bool true) ∧ Below w.heap.size w w' := by
  go_enter Try.func8, Try.ntmps8
  go_wp2_with fail
  refine (szBookingS_any _ _ _ l0 _ w.heap.size _ (h0.on (Nat.le_refl _) (Below.refl w.heap.size w)) (by omega) (by omega) hn0 (Below.refl w.heap.size w).size hd0).mono ?_
  rintro e w1 ⟨r0, rfl, b1, hr0⟩
  have z1 := b1.size
  have H1 := Lib.hid (bnext (Below.refl w.heap.size w) b1 (Nat.le_refl _))
  clear b1
  rcases hr0 with hr0 | ⟨hr0, hq0, hs0, hg0⟩
  · go_wp2
    go_ret
    exact ⟨rfl, H1.out⟩
  · have hm0 : n0 ≤ 1048576 := by omega
    go_wp2_with fail
    refine (toBookingS_any _ _ _ w.heap.size l0 _ (h0.on (Nat.le_refl _) H1.out) H1.out.size hm0).mono ?_
    rintro e w2 ⟨g2, rfl, s2, b2⟩
    have z2 := b2.size
    have H2 := Lib.hid (bnext H1.out b2 (Nat.le_refl _))
    clear b2
    go_wp2_with fail
    refine (specDebtorsOn_any _ _ _ l0 _ _ _ (s2.reads (by omega)) (Nat.le_refl _) hm0 hg0 hx1).mono ?_
    rintro e w3 ⟨A3', m3, d3, rfl, s3, b3⟩
    have z3 := b3.size
    replace s2 := s2.on b3
    have H3 := Lib.hid (bnext H2.out b3 (Nat.le_refl _))
    clear b3
    clear s2
    go_wp2_with fail
    refine (toBookingS_any _ _ _ w.heap.size l0 _ (h0.on (Nat.le_refl _) H3.out) H3.out.size hm0).mono ?_
    rintro e w4 ⟨g4, rfl, s4, b4⟩
    have z4 := b4.size
    replace s3 := s3.on b4
    have H4 := Lib.hid (bnext H3.out b4 (Nat.le_refl _))
    clear b4
    go_wp2_with fail
    refine (implDebtorsOn_any _ _ _ l0 _ _ _ (s4.reads (by omega)) (Nat.le_refl _) hm0 hg0 hx1).mono ?_
    rintro e w5 ⟨A5', m5, d5, rfl, s5, b5⟩
    have z5 := b5.size
    replace s3 := s3.on b5
    replace s4 := s4.on b5
    have H5 := Lib.hid (bnext H4.out b5 (Nat.le_refl _))
    clear b5
    have hmm : m3 ≤ 1048576 := cntDebtorsOn_len s3.len
    obtain rfl : m3 = m5 := by have h1 := s5.len; have h2 := s3.len; omega
    go_wp2_with fail
    refine (eqStringS_same _ _ _ _ _ _ _ _ (s5.reads (by omega)) (s3.reads (by omega)) hmm (Nat.le_refl _)).mono ?_
    rintro e w6 ⟨rfl, b6⟩
    have z6 := b6.size
    replace s3 := s3.on b6
    replace s4 := s4.on b6
    replace s5 := s5.on b6
    have H6 := Lib.hid (bnext H5.out b6 (Nat.le_refl _))
    clear b6
    go_wp2_with fail
    refine (toBookingS_any _ _ _ w.heap.size l0 _ (h0.on (Nat.le_refl _) H6.out) H6.out.size hm0).mono ?_
    rintro e w7 ⟨g7, rfl, s7, b7⟩
    have z7 := b7.size
    replace s3 := s3.on b7
    replace s4 := s4.on b7
    replace s5 := s5.on b7
    have H7 := Lib.hid (bnext H6.out b7 (Nat.le_refl _))
    clear b7
    go_wp2_with fail
    refine (eqBookingS_same _ _ _ _ _ _ l0 _ (s4.reads (by omega)) (s7.reads (by omega)) hm0 (Nat.le_refl _)).mono ?_
    rintro e w8 ⟨rfl, b8⟩
    have z8 := b8.size
    replace s3 := s3.on b8
    replace s4 := s4.on b8
    replace s5 := s5.on b8
    replace s7 := s7.on b8
    have H8 := Lib.hid (bnext H7.out b8 (Nat.le_refl _))
    clear b8
    clear s7
    go_wp2_with fail
    refine (markBookingS_any _ _ _ _ _ 1 _ _ s4 hm0 (by omega) (by omega)).mono ?_
    rintro e w9 ⟨q9, rfl, hqa9, hqb9, b9⟩
    clear s4
    have z9 := b9.size
    replace s3 := s3.apart b9 (by omega)
    replace s5 := s5.apart b9 (by omega)
    have H9 := Lib.hid (bonly H8.out b9 (by omega) (Nat.le_refl _))
    clear b9
    go_wp2_with fail
    refine (eqStringS_same _ _ _ _ _ _ _ _ (s5.reads (by omega)) (s3.reads (by omega)) hmm (Nat.le_refl _)).mono ?_
    rintro e w10 ⟨rfl, b10⟩
    have z10 := b10.size
    replace s3 := s3.on b10
    replace s5 := s5.on b10
    have H10 := Lib.hid (bnext H9.out b10 (Nat.le_refl _))
    clear b10
    go_wp2_with fail
    refine (markStringS_any _ _ _ _ _ _ _ s5 hmm).mono ?_
    rintro e w11 ⟨rfl, t5, b11⟩
    have z11 := b11.size
    replace s3 := s3.apart b11 (by omega)
    have H11 := Lib.hid (bonly H10.out b11 (by omega) (Nat.le_refl _))
    clear b11
    go_wp2_with fail
    refine (heldStringS_any _ _ _ _ _ (t5.reads (by omega)) hmm (Nat.le_refl _)).mono ?_
    rintro e w12 ⟨rfl, b12⟩
    have z12 := b12.size
    replace s3 := s3.on b12
    replace t5 := t5.on b12
    have H12 := Lib.hid (bnext H11.out b12 (Nat.le_refl _))
    clear b12
    go_wp2_with fail
    refine (toBookingS_any _ _ _ w.heap.size l0 _ (h0.on (Nat.le_refl _) H12.out) H12.out.size hm0).mono ?_
    rintro e w13 ⟨g13, rfl, s13, b13⟩
    have z13 := b13.size
    replace s3 := s3.on b13
    replace t5 := t5.on b13
    have H13 := Lib.hid (bnext H12.out b13 (Nat.le_refl _))
    clear b13
    go_wp2_with fail
    refine (implDebtorsOn_any _ _ _ l0 _ _ _ (s13.reads (by omega)) (Nat.le_refl _) hm0 hg0 hx1).mono ?_
    rintro e w14 ⟨A14', m14, d14, rfl, s14, b14⟩
    have z14 := b14.size
    replace s3 := s3.on b14
    replace t5 := t5.on b14
    replace s13 := s13.on b14
    have H14 := Lib.hid (bnext H13.out b14 (Nat.le_refl _))
    clear b14
    clear s13
    obtain rfl : m3 = m14 := by have h1 := s14.len; have h2 := s3.len; omega
    go_wp2_with fail
    refine (eqStringS_same _ _ _ _ _ _ _ _ (s14.reads (by omega)) (s3.reads (by omega)) hmm (Nat.le_refl _)).mono ?_
    rintro e w15 ⟨rfl, b15⟩
    have z15 := b15.size
    replace s3 := s3.on b15
    replace t5 := t5.on b15
    replace s14 := s14.on b15
    have H15 := Lib.hid (bnext H14.out b15 (Nat.le_refl _))
    clear b15
    go_wp2_with fail
    refine (heldStringS_any _ _ _ _ _ (t5.reads (by omega)) hmm (Nat.le_refl _)).mono ?_
    rintro e w16 ⟨rfl, b16⟩
    have z16 := b16.size
    replace s3 := s3.on b16
    replace t5 := t5.on b16
    replace s14 := s14.on b16
    have H16 := Lib.hid (bnext H15.out b16 (Nat.le_refl _))
    clear b16
    go_wp2
    go_ret
    exact ⟨rfl, H16.out⟩

end Go.Proofs.Ytnlghcpidlpfkaa.lawDebtorsOn
