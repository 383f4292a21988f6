/- FnExactReadClient: for all arguments the program's ReadClient returns what the reference's returns; the arguments are left as they were. -/
import Derived.Test.YtafbehpgnmdglaaDoorRcI
import Derived.Test.YtafbehpgnmdglaaDoorClA
set_option linter.unusedVariables false
namespace Go.Proofs.YtafbehpgnmdglaaDoor.lawReadClient
open Go.RowKit Go.Proofs.YtafbehpgnmdglaaDoor

theorem walk (s0 : ByteArray) (w : World) (hz0 : s0.size ≤ 9223372036854775807) (m : Int) (hm : w.cell? ⟨0, 0, none⟩ = some (.int .i64 m)) (ht : TabP w) (hv : SynP w) :
    Calls Tryd.prog 8 #[.string s0] w fun e w' => e = .returned (.bool true) ∧ Below w.heap.size w w' := by
  have HT := Lib.hid ht
  clear ht
  have HM := Lib.hid hm
  have HV := Lib.hid hv
  clear hm hv
  go_enter Tryd.func8, Tryd.ntmps8
  rcases Nat.lt_or_ge 1048576 s0.size with hq0 | hq0
  · have hy0 : decide ((1048576 : Int) < (s0.size : Int)) = true := decide_eq_true (by omega)
    go_wp2
    go_ret
    first | exact ⟨rfl, Below.refl _ _⟩ | exact ⟨rfl, (Below.refl _ _).alloc (Nat.le_refl _) _⟩
  · have hy0 : decide ((1048576 : Int) < (s0.size : Int)) = false := decide_eq_false (by omega)
    go_wp2_with fail
    refine (specReadClient_any _ _   hq0).mono ?_
    rintro e w1 ⟨rfl, b1⟩
    have z1 := b1.size
    have H1 := Lib.hid (bnext (Below.refl w.heap.size w) b1 (Nat.le_refl _))
    clear b1
    go_wp2_with fail
    obtain ⟨y1, hy1⟩ : ∃ y, w1.alloc (.cells #[.string (rcF s0).1.name, .int .i64 (rcF s0).1.station, .int .i64 (rcF s0).1.from_, .int .i64 (rcF s0).1.to_, .int .i64 (rcF s0).1.quota] 26) = y := ⟨_, rfl⟩
    rw [hy1]
    have b1 : Below w1.heap.size w1 y1 := by rw [← hy1]; exact (Below.refl _ _).alloc (Nat.le_refl _) _
    have s1 : Blk y1 w1.heap.size 26 #[.string (rcF s0).1.name, .int .i64 (rcF s0).1.station, .int .i64 (rcF s0).1.from_, .int .i64 (rcF s0).1.to_, .int .i64 (rcF s0).1.quota] := by rw [← hy1]; exact Blk.new _ _ _
    clear hy1
    have z1' := b1.size
    replace H1 := Lib.hid (bnext H1.out b1 (Nat.le_refl _))
    clear b1
    go_wp2_with fail
    refine (implReadClient_any _ m _   hq0 (cell_on H1.out HM.out) (tabUp HT.out H1.out) (synUp HV.out H1.out)).mono ?_
    rintro e w2 ⟨rfl, b2⟩
    have z2 := b2.size
    replace s1 := s1.on b2
    have H2 := Lib.hid (bnext H1.out b2 (Nat.le_refl _))
    clear b2
    have hc1_0 := s1.cellAt 0 (by simp)
    have hc1_1 := s1.cellAt 1 (by simp)
    have hc1_2 := s1.cellAt 2 (by simp)
    have hc1_3 := s1.cellAt 3 (by simp)
    have hc1_4 := s1.cellAt 4 (by simp)
    have hlt1 := s1.lt
    go_wp2_with fail
    refine (eqClient_same (rcF s0).1 _).mono ?_
    rintro e w3 ⟨rfl, bb3⟩
    have b3 : Below w2.heap.size w2 w3 := ((Below.refl _ _).alloc (Nat.le_refl _) _).trans (bb3.mono (by simp))
    clear bb3 hc1_0 hc1_1 hc1_2 hc1_3 hc1_4
    have z3 := b3.size
    replace s1 := s1.on b3
    have H3 := Lib.hid (bnext H2.out b3 (Nat.le_refl _))
    clear b3
    clear s1
    go_wp2
    go_ret
    exact ⟨rfl, H3.out⟩

end Go.Proofs.YtafbehpgnmdglaaDoor.lawReadClient
