/- FnExactLogOf: for all arguments the program's LogOf returns what the reference's returns; the arguments are left as they were. -/
import Derived.Test.YtafbehpgnmdglaaDoorLogOf2
import Derived.Test.YtafbehpgnmdglaaDoorEnA
set_option linter.unusedVariables false
namespace Go.Proofs.YtafbehpgnmdglaaDoor.lawLogOf
open Go.RowKit Go.Proofs.YtafbehpgnmdglaaDoor

theorem walk (A0 : Option Addr) (n0 c0 : Nat) (l0 : List En) (w : World) (h0 : Reads w w.heap.size 3 A0 n0 (ens l0)) (hn0 : n0 ≤ 9223372036854775807) (hd0 : ∀ x ∈ l0, x.good) (ht : TabP w) :
    Calls Tryd.prog 7 #[.slice A0 n0 c0] w fun e w' => e = .returned (.bool true) ∧ Below w.heap.size w w' := by
  have HT := Lib.hid ht
  clear ht
  go_enter Tryd.func7, Tryd.ntmps7
  go_wp2_with fail
  refine (szEntryS_any _ _ _ l0 _ w.heap.size _ (h0.on (Nat.le_refl _) (Below.refl w.heap.size w)) (by omega) (by omega) hn0 (Below.refl w.heap.size w).size hd0).mono ?_
  rintro e w1 ⟨r0, rfl, b1, hr0⟩
  have z1 := b1.size
  have H1 := Lib.hid (bnext (Below.refl w.heap.size w) b1 (Nat.le_refl _))
  clear b1
  rcases hr0 with hr0 | ⟨hr0, hq0, hs0, hg0⟩
  · go_wp2
    go_ret
    exact ⟨rfl, H1.out⟩
  · have hm0 : n0 ≤ 1048576 := by omega
    go_wp2_with fail
    refine (toEntryS_any _ _ _ w.heap.size l0 _ (h0.on (Nat.le_refl _) H1.out) H1.out.size hm0).mono ?_
    rintro e w2 ⟨g2, rfl, s2, b2⟩
    have z2 := b2.size
    have H2 := Lib.hid (bnext H1.out b2 (Nat.le_refl _))
    clear b2
    go_wp2_with fail
    refine (specLogOf_any _ _ _ l0 _ _ (s2.reads (by omega)) (Nat.le_refl _) hm0 hg0 hd0).mono ?_
    rintro e w3 ⟨rfl, b3⟩
    have z3 := b3.size
    replace s2 := s2.on b3
    have H3 := Lib.hid (bnext H2.out b3 (Nat.le_refl _))
    clear b3
    clear s2
    go_wp2_with fail
    refine (toEntryS_any _ _ _ w.heap.size l0 _ (h0.on (Nat.le_refl _) H3.out) H3.out.size hm0).mono ?_
    rintro e w4 ⟨g4, rfl, s4, b4⟩
    have z4 := b4.size
    have H4 := Lib.hid (bnext H3.out b4 (Nat.le_refl _))
    clear b4
    go_wp2_with fail
    refine (implLogOf_any _ _ _ l0 _ _ (s4.reads (by omega)) (Nat.le_refl _) hm0 hg0 hd0 (tabUp HT.out H4.out)).mono ?_
    rintro e w5 ⟨rfl, b5⟩
    have z5 := b5.size
    replace s4 := s4.on b5
    have H5 := Lib.hid (bnext H4.out b5 (Nat.le_refl _))
    clear b5
    go_wp2_with fail
    refine (toEntryS_any _ _ _ w.heap.size l0 _ (h0.on (Nat.le_refl _) H5.out) H5.out.size hm0).mono ?_
    rintro e w6 ⟨g6, rfl, s6, b6⟩
    have z6 := b6.size
    replace s4 := s4.on b6
    have H6 := Lib.hid (bnext H5.out b6 (Nat.le_refl _))
    clear b6
    go_wp2_with fail
    refine (eqEntryS_same _ _ _ _ _ _ l0 _ (s4.reads (by omega)) (s6.reads (by omega)) hm0 (Nat.le_refl _)).mono ?_
    rintro e w7 ⟨rfl, b7⟩
    have z7 := b7.size
    replace s4 := s4.on b7
    replace s6 := s6.on b7
    have H7 := Lib.hid (bnext H6.out b7 (Nat.le_refl _))
    clear b7
    clear s6
    clear s4
    go_wp2
    go_ret
    exact ⟨rfl, H7.out⟩

end Go.Proofs.YtafbehpgnmdglaaDoor.lawLogOf
