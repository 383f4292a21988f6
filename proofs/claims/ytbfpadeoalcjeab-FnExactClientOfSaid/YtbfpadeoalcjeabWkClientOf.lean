/- FnExactClientOf: for all arguments the program's ClientOf returns what the reference's returns; the arguments are left as they were. -/
import Derived.Test.YtbfpadeoalcjeabClI
set_option linter.unusedVariables false
namespace Go.Proofs.Ytbfpadeoalcjeab.lawClientOf
open Go.RowKit Go.Proofs.Ytbfpadeoalcjeab

theorem walk (A0 : Option Addr) (n0 c0 : Nat) (l0 : List Cl) (s1 : ByteArray) (w : World) (h0 : Reads w w.heap.size 5 A0 n0 (cls l0)) (hn0 : n0 ≤ 9223372036854775807) (hd0 : ∀ x ∈ l0, x.good) (hz1 : s1.size ≤ 9223372036854775807) :
    Calls Try.prog 5 #[.slice A0 n0 c0, .string s1] w fun e w' => e = .returned (.bool true) ∧ Below w.heap.size w w' := by
  go_enter Try.func5, Try.ntmps5
  rcases Nat.lt_or_ge 1048576 s1.size with hq1 | hq1
  · have hy1 : decide ((1048576 : Int) < (s1.size : Int)) = true := decide_eq_true (by omega)
    go_wp2
    go_ret
    first | exact ⟨rfl, Below.refl _ _⟩ | exact ⟨rfl, (Below.refl _ _).alloc (Nat.le_refl _) _⟩
  · have hy1 : decide ((1048576 : Int) < (s1.size : Int)) = false := decide_eq_false (by omega)
    go_wp2_with fail
    refine (szClientS_any _ _ _ l0 _ w.heap.size _ (h0.on (Nat.le_refl _) (Below.refl w.heap.size w)) (by omega) (by omega) hn0 (Below.refl w.heap.size w).size hd0).mono ?_
    rintro e w1 ⟨r0, rfl, b1, hr0⟩
    have z1 := b1.size
    have H1 := Lib.hid (bnext (Below.refl w.heap.size w) b1 (Nat.le_refl _))
    clear b1
    rcases hr0 with hr0 | ⟨hr0, hq0, hs0, hg0⟩
    · go_wp2
      go_ret
      exact ⟨rfl, H1.out⟩
    · have hm0 : n0 ≤ 1048576 := by omega
      go_wp2_with fail
      refine (toClientS_any _ _ _ w.heap.size l0 _ (h0.on (Nat.le_refl _) H1.out) H1.out.size hm0).mono ?_
      rintro e w2 ⟨g2, rfl, s2, b2⟩
      have z2 := b2.size
      have H2 := Lib.hid (bnext H1.out b2 (Nat.le_refl _))
      clear b2
      go_wp2_with fail
      refine (specClientOf_any _ _ _ l0 _ _ _ (s2.reads (by omega)) (Nat.le_refl _) hm0 hg0 hd0 hq1).mono ?_
      rintro e w3 ⟨rfl, b3⟩
      have z3 := b3.size
      replace s2 := s2.on b3
      have H3 := Lib.hid (bnext H2.out b3 (Nat.le_refl _))
      clear b3
      clear s2
      go_wp2_with fail
      obtain ⟨y3, hy3⟩ : ∃ y, w3.alloc (.cells #[.string (clientF l0 s1).1.name, .int .i64 (clientF l0 s1).1.station, .int .i64 (clientF l0 s1).1.from_, .int .i64 (clientF l0 s1).1.to_, .int .i64 (clientF l0 s1).1.quota] 33) = y := ⟨_, rfl⟩
      rw [hy3]
      have b3 : Below w3.heap.size w3 y3 := by rw [← hy3]; exact (Below.refl _ _).alloc (Nat.le_refl _) _
      have s3 : Blk y3 w3.heap.size 33 #[.string (clientF l0 s1).1.name, .int .i64 (clientF l0 s1).1.station, .int .i64 (clientF l0 s1).1.from_, .int .i64 (clientF l0 s1).1.to_, .int .i64 (clientF l0 s1).1.quota] := by rw [← hy3]; exact Blk.new _ _ _
      clear hy3
      have z3' := b3.size
      replace H3 := Lib.hid (bnext H3.out b3 (Nat.le_refl _))
      clear b3
      go_wp2_with fail
      refine (toClientS_any _ _ _ w.heap.size l0 _ (h0.on (Nat.le_refl _) H3.out) H3.out.size hm0).mono ?_
      rintro e w4 ⟨g4, rfl, s4, b4⟩
      have z4 := b4.size
      replace s3 := s3.on b4
      have H4 := Lib.hid (bnext H3.out b4 (Nat.le_refl _))
      clear b4
      go_wp2_with fail
      refine (implClientOf_any _ _ _ l0 _ _ _ (s4.reads (by omega)) (Nat.le_refl _) hm0 hg0 hd0 hq1).mono ?_
      rintro e w5 ⟨rfl, b5⟩
      have z5 := b5.size
      replace s3 := s3.on b5
      replace s4 := s4.on b5
      have H5 := Lib.hid (bnext H4.out b5 (Nat.le_refl _))
      clear b5
      have hc3_0 := s3.cellAt 0 (by simp)
      have hc3_1 := s3.cellAt 1 (by simp)
      have hc3_2 := s3.cellAt 2 (by simp)
      have hc3_3 := s3.cellAt 3 (by simp)
      have hc3_4 := s3.cellAt 4 (by simp)
      have hlt3 := s3.lt
      go_wp2_with fail
      refine (eqClient_same _ _).mono ?_
      rintro e w6 ⟨rfl, bb6⟩
      have b6 : Below w5.heap.size w5 w6 := ((Below.refl _ _).alloc (Nat.le_refl _) _).trans (bb6.mono (by simp))
      clear bb6 hc3_0 hc3_1 hc3_2 hc3_3 hc3_4
      have z6 := b6.size
      replace s3 := s3.on b6
      replace s4 := s4.on b6
      have H6 := Lib.hid (bnext H5.out b6 (Nat.le_refl _))
      clear b6
      clear s3
      go_wp2_with fail
      refine (toClientS_any _ _ _ w.heap.size l0 _ (h0.on (Nat.le_refl _) H6.out) H6.out.size hm0).mono ?_
      rintro e w7 ⟨g7, rfl, s7, b7⟩
      have z7 := b7.size
      replace s4 := s4.on b7
      have H7 := Lib.hid (bnext H6.out b7 (Nat.le_refl _))
      clear b7
      go_wp2_with fail
      refine (eqClientS_same _ _ _ _ _ _ l0 _ (s4.reads (by omega)) (s7.reads (by omega)) hm0 (Nat.le_refl _)).mono ?_
      rintro e w8 ⟨rfl, b8⟩
      have z8 := b8.size
      replace s4 := s4.on b8
      replace s7 := s7.on b8
      have H8 := Lib.hid (bnext H7.out b8 (Nat.le_refl _))
      clear b8
      clear s7
      clear s4
      go_wp2
      go_ret
      exact ⟨rfl, H8.out⟩

end Go.Proofs.Ytbfpadeoalcjeab.lawClientOf
