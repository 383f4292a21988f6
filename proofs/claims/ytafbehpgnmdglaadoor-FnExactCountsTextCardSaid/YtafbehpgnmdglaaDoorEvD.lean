/- Events: the law's comparison of two lists that read alike; its marks. -/
import Derived.Test.YtafbehpgnmdglaaDoorEvB
set_option linter.unusedVariables false
namespace Go.Proofs.YtafbehpgnmdglaaDoor
open Go.RowKit

theorem eqEvent_same (s h : Int) (w : World) : Calls Tryd.prog 77 #[.agg #[.int .i64 s, .int .i64 h], .agg #[.int .i64 s, .int .i64 h]] w fun e w' => e = .returned (.bool true) ∧ Below w.heap.size w w' := by
  go_enter Tryd.func77, Tryd.ntmps77
  go_wp2
  go_ret
  exact ⟨rfl, ((Below.refl _ _).alloc (Nat.le_refl _) _).alloc (by simp) _⟩

theorem eqEventS_same (A A' : Option Addr) (n c c' B : Nat) (l : List Ev) (w : World) (h : Reads w B 2 A n (evs l)) (h' : Reads w B 2 A' n (evs l)) (hn : n ≤ 1048576) (hB : B ≤ w.heap.size) :
    Calls Tryd.prog 31 #[.slice A n c, .slice A' n c'] w fun e w' => e = .returned (.bool true) ∧ Below w.heap.size w w' := by
  go_enter Tryd.func31, Tryd.ntmps31
  go_wp2
  go_loopw [5] (fun i wr => ∃ k : Nat, k ≤ n ∧ i = .int .i64 k ∧ Below w.heap.size w wr) (fun i _ => n - (intOf i).toNat)
  case atStart => exact ⟨0, Nat.zero_le _, rfl, Below.refl _ _⟩
  case round =>
    obtain ⟨k, hk, rfl, hbel⟩ := hrel
    by_cases hlt : k < n
    · obtain ⟨⟨s, hh⟩, b, off, he, rfl, hb, c0, c1⟩ := ev_at (h.on hB hbel) hlt
      obtain ⟨⟨s', hh'⟩, b', off', he', rfl, hb', d0, d1⟩ := ev_at (h'.on hB hbel) hlt
      obtain ⟨rfl, rfl⟩ : s = s' ∧ hh = hh' := by rw [he] at he'; injection he' with he'; injection he' with h1 h2; exact ⟨h1, h2⟩
      simp only at c0 c1 d0 d1
      have HB := Lib.hid hbel
      have hlt' : (k : Int) < n := by omega
      have hk0 : (0 : Int) ≤ k := by omega
      have hbw : b < wr.heap.size := by have := hbel.size; omega
      have hbw' : b' < wr.heap.size := by have := hbel.size; omega
      clear he he' hbel h h'
      go_wp2_with fail
      go_region_held3 (fun W => Below wr.heap.size wr W ∧ W.cell? ⟨b, off + k * 2, none⟩ = some (.int .i64 s) ∧ W.cell? ⟨b, off + k * 2 + 1, none⟩ = some (.int .i64 hh) ∧ W.cell? ⟨b', off' + k * 2, none⟩ = some (.int .i64 s) ∧ W.cell? ⟨b', off' + k * 2 + 1, none⟩ = some (.int .i64 hh)) (first | exact ⟨(Below.refl _ _).drew, c0, c1, d0, d1⟩ | (go_split_ands; exact ⟨bnext (by assumption) hb1 (Nat.le_refl _), cell_on hb1 (by assumption), cell_on hb1 (by assumption), cell_on hb1 (by assumption), cell_on hb1 (by assumption)⟩)) (first | (go_at_call 77; refine (eqEvent_same _ _ _).mono ?_; rintro e w1 ⟨rfl, hb1⟩))
      rename_i hS
      have HS := Lib.hid (bnext HB.out hS.1 (Nat.le_refl _))
      clear hS hb1 c0 c1 d0 d1
      go_wp2
      go_roundw
      case rel => exact ⟨k + 1, by omega, by go_num, HS.out⟩
      case measure => simp [intOf]; omega
    · obtain rfl : k = n := by omega
      go_wp2
      go_ret
      exact ⟨rfl, hbel⟩

end Go.Proofs.YtafbehpgnmdglaaDoor
