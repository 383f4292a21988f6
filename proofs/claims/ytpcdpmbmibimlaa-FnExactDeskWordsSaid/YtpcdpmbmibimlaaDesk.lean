/- The desk's words. -/
import Derived.Test.YtpcdpmbmibimlaaStrS
set_option linter.unusedVariables false
namespace Go.Proofs.Ytpcdpmbmibimlaa
open Go.RowKit

def deskWords : List ByteArray := [⟨#[101, 110, 116, 101, 114]⟩, ⟨#[102, 114, 101, 101]⟩, ⟨#[108, 111, 103]⟩, ⟨#[110, 101, 116]⟩, ⟨#[113, 117, 101, 117, 101]⟩, ⟨#[114, 117, 110]⟩, ⟨#[114, 117, 110, 115]⟩, ⟨#[115, 101, 97, 114, 99, 104]⟩, ⟨#[115, 116, 117, 99, 107]⟩, ⟨#[116, 105, 109, 101, 115]⟩, ⟨#[119, 97, 121]⟩]

theorem l28Words_any (w : World) :
    Calls Try.prog 58 #[] w fun e w' => ∃ A' m d, e = .returned (.slice A' m d) ∧ Sl w' w.heap.size w'.heap.size 9 1 A' m d (strs deskWords) ∧ Below w.heap.size w w' := by
  go_enter Try.func58, Try.ntmps58
  go_wp2
  go_ret
  exact ⟨_, _, _, rfl, Sl.of_blk (Blk.new _ _ _) (Nat.le_refl _) (by simp) (by decide) (by decide), (Below.refl _ _).alloc (Nat.le_refl _) _⟩

theorem implDeskWords_any (w : World) :
    Calls Try.prog 16 #[] w fun e w' => ∃ A' m d, e = .returned (.slice A' m d) ∧ Sl w' w.heap.size w'.heap.size 9 1 A' m d (strs deskWords) ∧ Below w.heap.size w w' := by
  go_enter Try.func16, Try.ntmps16
  go_wp2
  go_ret
  exact ⟨_, _, _, rfl, Sl.of_blk (Blk.new _ _ _) (Nat.le_refl _) (by simp) (by decide) (by decide), (Below.refl _ _).alloc (Nat.le_refl _) _⟩

theorem specDeskWords_any (w : World) :
    Calls Try.prog 15 #[] w fun e w' => ∃ A' m d, e = .returned (.slice A' m d) ∧ Sl w' w.heap.size w'.heap.size 9 1 A' m d (strs deskWords) ∧ Below w.heap.size w w' := by
  go_enter Try.func15, Try.ntmps15
  go_wp2_with fail
  refine (l28Words_any _).mono ?_
  rintro e w1 ⟨A', m, d, rfl, s1, b1⟩
  go_wp2
  go_ret
  exact ⟨_, _, _, rfl, s1, b1⟩
theorem cntDeskWords_len {m : Nat} (h : (strs deskWords).length = m * 1) : m ≤ 1048576 := by rw [strs_length] at h; have : deskWords.length = 11 := rfl; omega
end Go.Proofs.Ytpcdpmbmibimlaa
