/- FnExactCrossCounts: for all arguments the program's CrossCounts returns what the reference's returns; the arguments are left as they were. -/
import Derived.Test.YtnlghcpidlpfkaaEvX
import Derived.Test.YtnlghcpidlpfkaaEvD
import Derived.Test.YtnlghcpidlpfkaaEvOpen
import Derived.Test.YtnlghcpidlpfkaaI64SS
set_option linter.unusedVariables false
namespace Go.Proofs.Ytnlghcpidlpfkaa.lawCrossCounts
open Go.RowKit Go.Proofs.Ytnlghcpidlpfkaa

theorem walk (A0 : Option Addr) (n0 c0 : Nat) (l0 : List Ev) (w : World) (h0 : Reads w w.heap.size 2 A0 n0 (evs l0)) (hn0 : n0 ≤ 9223372036854775807) :
    Calls Try.prog 6 #[.slice A0 n0 c0] w fun e w' => e = .returned (.bool true) ∧ Below w.heap.size w w' := by
  go_enter Try.func6, Try.ntmps6
  go_wp2_with fail
  refine (szEventS_any _ _ _ l0 _ w.heap.size _ h0 (by omega) (by omega) hn0).mono ?_
  rintro e w0 ⟨r0, rfl, rfl, hr0⟩
  rcases hr0 with hr0 | ⟨hr0, hq0, hs0, hg0⟩
  · go_wp2
    go_ret
    exact ⟨rfl, Below.refl _ _⟩
  · have hm0 : n0 ≤ 1048576 := by omega
    go_wp2_with fail
    refine (toEventS_any _ _ _ w.heap.size l0 _ (h0.on (Nat.le_refl _) (Below.refl w.heap.size w)) (Below.refl w.heap.size w).size hm0).mono ?_
    rintro e w1 ⟨g1, rfl, s1, b1⟩
    have z1 := b1.size
    have H1 := Lib.hid (bnext (Below.refl w.heap.size w) b1 (Nat.le_refl _))
    clear b1
    go_wp2_with fail
    refine (specCrossCounts_any _ _ _ l0 _ _ (s1.reads (by omega)) (Nat.le_refl _) hm0).mono ?_
    rintro e w2 ⟨A2', d2, gs2, rfl, s2, b2⟩
    have z2 := b2.size
    replace s1 := s1.on b2
    have H2 := Lib.hid (bnext H1.out b2 (Nat.le_refl _))
    clear b2
    clear s1
    go_wp2_with fail
    refine (toEventS_any _ _ _ w.heap.size l0 _ (h0.on (Nat.le_refl _) H2.out) H2.out.size hm0).mono ?_
    rintro e w3 ⟨g3, rfl, s3, b3⟩
    have z3 := b3.size
    replace s2 := s2.on b3
    have H3 := Lib.hid (bnext H2.out b3 (Nat.le_refl _))
    clear b3
    go_wp2_with fail
    refine (implCrossCounts_any _ _ _ l0 _ _ (s3.reads (by omega)) (Nat.le_refl _) hm0).mono ?_
    rintro e w4 ⟨A4', d4, gs4, rfl, s4, b4⟩
    have z4 := b4.size
    replace s2 := s2.on b4
    replace s3 := s3.on b4
    have H4 := Lib.hid (bnext H3.out b4 (Nat.le_refl _))
    clear b4
    have hmm : crossN l0 ≤ 1000 := by unfold crossN; split <;> omega
    go_wp2_with fail
    refine (eqInt64SS_same _ _ _ _ _ 24 _ _ _ _ _ _ _ _ s4 s2 (by omega) (by omega)).mono ?_
    rintro e w5 ⟨rfl, b5⟩
    have z5 := b5.size
    replace s2 := s2.on b5
    replace s3 := s3.on b5
    replace s4 := s4.on b5
    have H5 := Lib.hid (bnext H4.out b5 (Nat.le_refl _))
    clear b5
    go_wp2_with fail
    refine (toEventS_any _ _ _ w.heap.size l0 _ (h0.on (Nat.le_refl _) H5.out) H5.out.size hm0).mono ?_
    rintro e w6 ⟨g6, rfl, s6, b6⟩
    have z6 := b6.size
    replace s2 := s2.on b6
    replace s3 := s3.on b6
    replace s4 := s4.on b6
    have H6 := Lib.hid (bnext H5.out b6 (Nat.le_refl _))
    clear b6
    go_wp2_with fail
    refine (eqEventS_same _ _ _ _ _ _ l0 _ (s3.reads (by omega)) (s6.reads (by omega)) hm0 (Nat.le_refl _)).mono ?_
    rintro e w7 ⟨rfl, b7⟩
    have z7 := b7.size
    replace s2 := s2.on b7
    replace s3 := s3.on b7
    replace s4 := s4.on b7
    replace s6 := s6.on b7
    have H7 := Lib.hid (bnext H6.out b7 (Nat.le_refl _))
    clear b7
    clear s6
    go_wp2_with fail
    refine (markEventS_any _ _ _ _ _ 1 _ _ s3 hm0 (by omega) (by omega)).mono ?_
    rintro e w8 ⟨q8, rfl, hqa8, hqb8, b8⟩
    clear s3
    have z8 := b8.size
    replace s2 := s2.apart b8 (by omega)
    replace s4 := s4.apart b8 (by omega)
    have H8 := Lib.hid (bonly H7.out b8 (by omega) (Nat.le_refl _))
    clear b8
    go_wp2_with fail
    refine (eqInt64SS_same _ _ _ _ _ 24 _ _ _ _ _ _ _ _ s4 s2 (by omega) (by omega)).mono ?_
    rintro e w9 ⟨rfl, b9⟩
    have z9 := b9.size
    replace s2 := s2.on b9
    replace s4 := s4.on b9
    have H9 := Lib.hid (bnext H8.out b9 (Nat.le_refl _))
    clear b9
    go_wp2_with fail
    refine (markInt64SS_any _ _ _ 24 _ _ _ _ _ s4 hmm (by omega)).mono ?_
    rintro e w10 ⟨rfl, t4, b10⟩
    have z10 := b10.size
    replace s2 := s2.apart b10 (by omega)
    have H10 := Lib.hid (bonly H9.out b10 (by omega) (Nat.le_refl _))
    clear b10
    go_wp2_with fail
    refine (heldInt64SS_any _ _ _ 24 _ _ _ _ t4 hmm (by omega)).mono ?_
    rintro e w' ⟨rfl, rfl⟩
    go_wp2_with fail
    refine (toEventS_any _ _ _ w.heap.size l0 _ (h0.on (Nat.le_refl _) H10.out) H10.out.size hm0).mono ?_
    rintro e w12 ⟨g12, rfl, s12, b12⟩
    have z12 := b12.size
    replace s2 := s2.on b12
    replace t4 := t4.on b12
    have H12 := Lib.hid (bnext H10.out b12 (Nat.le_refl _))
    clear b12
    go_wp2_with fail
    refine (implCrossCounts_any _ _ _ l0 _ _ (s12.reads (by omega)) (Nat.le_refl _) hm0).mono ?_
    rintro e w13 ⟨A13', d13, gs13, rfl, s13, b13⟩
    have z13 := b13.size
    replace s2 := s2.on b13
    replace t4 := t4.on b13
    replace s12 := s12.on b13
    have H13 := Lib.hid (bnext H12.out b13 (Nat.le_refl _))
    clear b13
    clear s12
    go_wp2_with fail
    refine (eqInt64SS_same _ _ _ _ _ 24 _ _ _ _ _ _ _ _ s13 s2 (by omega) (by omega)).mono ?_
    rintro e w14 ⟨rfl, b14⟩
    have z14 := b14.size
    replace s2 := s2.on b14
    replace t4 := t4.on b14
    replace s13 := s13.on b14
    have H14 := Lib.hid (bnext H13.out b14 (Nat.le_refl _))
    clear b14
    go_wp2_with fail
    refine (heldInt64SS_any _ _ _ 24 _ _ _ _ t4 hmm (by omega)).mono ?_
    rintro e w' ⟨rfl, rfl⟩
    go_wp2
    go_ret
    exact ⟨rfl, H14.out⟩

end Go.Proofs.Ytnlghcpidlpfkaa.lawCrossCounts
