/- FnExactNamesIn: for all arguments the program's NamesIn returns what the reference's returns; the arguments are left as they were. -/
import Derived.Test.YtjmlcobbjpmjpaaDoorNames
import Derived.Test.YtjmlcobbjpmjpaaDoorStrS
set_option linter.unusedVariables false
namespace Go.Proofs.YtjmlcobbjpmjpaaDoor.lawNamesIn
open Go.RowKit Go.Proofs.YtjmlcobbjpmjpaaDoor

theorem walk (s0 : ByteArray) (w : World) (hz0 : s0.size ≤ 9223372036854775807) (m : Int) (hm : w.cell? ⟨1, 0, none⟩ = some (.int .i64 m)) (ht : TabP w) (hv : SynP w) :
    Calls Tryd.prog 3 #[.string s0] w fun e w' => e = .returned (.bool true) ∧ Below w.heap.size w w' := by
  have HT := Lib.hid ht
  clear ht
  have HM := Lib.hid hm
  have HV := Lib.hid hv
  clear hm hv
  go_enter Tryd.func3, Tryd.ntmps3
  rcases Nat.lt_or_ge 1048576 s0.size with hq0 | hq0
  · have hy0 : decide ((1048576 : Int) < (s0.size : Int)) = true := decide_eq_true (by omega)
    go_wp2
    go_ret
    first | exact ⟨rfl, Below.refl _ _⟩ | exact ⟨rfl, (Below.refl _ _).alloc (Nat.le_refl _) _⟩
  · have hy0 : decide ((1048576 : Int) < (s0.size : Int)) = false := decide_eq_false (by omega)
    go_wp2_with fail
    refine (specNamesIn_any _ _   hq0).mono ?_
    rintro e w1 ⟨A1', m1, d1, rfl, s1, b1⟩
    have z1 := b1.size
    have H1 := Lib.hid (bnext (Below.refl w.heap.size w) b1 (Nat.le_refl _))
    clear b1
    go_wp2_with fail
    refine (implNamesIn_any _ m _   hq0 (cell_on H1.out HM.out) (tabUp HT.out H1.out) (synUp HV.out H1.out)).mono ?_
    rintro e w2 ⟨A2', m2, d2, rfl, s2, b2⟩
    have z2 := b2.size
    replace s1 := s1.on b2
    have H2 := Lib.hid (bnext H1.out b2 (Nat.le_refl _))
    clear b2
    have hmm : m1 ≤ 1048576 := cntNamesIn_len s1.len
    obtain rfl : m1 = m2 := by have h1 := s2.len; have h2 := s1.len; omega
    go_wp2_with fail
    refine (eqStringS_same _ _ _ _ _ _ _ _ (s2.reads (by omega)) (s1.reads (by omega)) hmm (Nat.le_refl _)).mono ?_
    rintro e w3 ⟨rfl, b3⟩
    have z3 := b3.size
    replace s1 := s1.on b3
    replace s2 := s2.on b3
    have H3 := Lib.hid (bnext H2.out b3 (Nat.le_refl _))
    clear b3
    go_wp2_with fail
    refine (markStringS_any _ _ _ _ _ _ _ s2 hmm).mono ?_
    rintro e w4 ⟨rfl, t2, b4⟩
    have z4 := b4.size
    replace s1 := s1.apart b4 (by omega)
    have H4 := Lib.hid (bonly H3.out b4 (by omega) (Nat.le_refl _))
    clear b4
    go_wp2_with fail
    refine (heldStringS_any _ _ _ _ _ (t2.reads (by omega)) hmm (Nat.le_refl _)).mono ?_
    rintro e w5 ⟨rfl, b5⟩
    have z5 := b5.size
    replace s1 := s1.on b5
    replace t2 := t2.on b5
    have H5 := Lib.hid (bnext H4.out b5 (Nat.le_refl _))
    clear b5
    go_wp2_with fail
    refine (implNamesIn_any _ m _   hq0 (cell_on H5.out HM.out) (tabUp HT.out H5.out) (synUp HV.out H5.out)).mono ?_
    rintro e w6 ⟨A6', m6, d6, rfl, s6, b6⟩
    have z6 := b6.size
    replace s1 := s1.on b6
    replace t2 := t2.on b6
    have H6 := Lib.hid (bnext H5.out b6 (Nat.le_refl _))
    clear b6
    obtain rfl : m1 = m6 := by have h1 := s6.len; have h2 := s1.len; omega
    go_wp2_with fail
    refine (eqStringS_same _ _ _ _ _ _ _ _ (s6.reads (by omega)) (s1.reads (by omega)) hmm (Nat.le_refl _)).mono ?_
    rintro e w7 ⟨rfl, b7⟩
    have z7 := b7.size
    replace s1 := s1.on b7
    replace t2 := t2.on b7
    replace s6 := s6.on b7
    have H7 := Lib.hid (bnext H6.out b7 (Nat.le_refl _))
    clear b7
    go_wp2_with fail
    refine (heldStringS_any _ _ _ _ _ (t2.reads (by omega)) hmm (Nat.le_refl _)).mono ?_
    rintro e w8 ⟨rfl, b8⟩
    have z8 := b8.size
    replace s1 := s1.on b8
    replace t2 := t2.on b8
    replace s6 := s6.on b8
    have H8 := Lib.hid (bnext H7.out b8 (Nat.le_refl _))
    clear b8
    go_wp2
    go_ret
    exact ⟨rfl, H8.out⟩

end Go.Proofs.YtjmlcobbjpmjpaaDoor.lawNamesIn
