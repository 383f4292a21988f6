/- strings.Cut at one byte, as the program calls it. -/
import Derived.Test.YtgcepomehgedfaaDoorSpi
set_option linter.unusedVariables false
namespace Go.Proofs.YtgcepomehgedfaaDoor
open Go.RowKit Go.Lib

theorem cut_hit {c : UInt8} {a r : List UInt8} (h : c ∉ a) : Lib.cut (a ++ c :: r) [c] = (a, r, true) := by
  rcases index_one c (a ++ c :: r) with ⟨_, hn⟩ | ⟨a2, r2, he, hn2, hi⟩
  · exact absurd (by simp) hn
  · have hs1 := splitL_hit (r := r) h
    have hs2 := splitL_hit (r := r2) hn2
    rw [he, hs2] at hs1
    injection hs1 with h1 h2
    subst h1
    have h3 : r2 = r := by
      have := List.append_cancel_left he
      injection this with _ h4
      exact h4.symm
    subst h3
    simp [Lib.cut, hi]
theorem cut_miss {c : UInt8} {l : List UInt8} (h : c ∉ l) : Lib.cut l [c] = (l, [], false) := by
  rcases index_one c l with ⟨hi, _⟩ | ⟨a2, r2, he, _, _⟩
  · simp [Lib.cut, hi]
  · exact absurd (by rw [he]; simp) h
theorem strCut_hit (s a : ByteArray) (c : UInt8) (r : List UInt8) (m : Int) (w : World) (hs : s.size ≤ 1048576) (hm : w.cell? ⟨0, 0, none⟩ = some (.int .i64 m)) (he : s.data.toList = a.data.toList ++ c :: r) (hn : c ∉ a.data.toList) :
    Calls Tryd.prog 23 #[.string s, .string ⟨#[c]⟩] w fun e w' => e = .returned (.tuple #[.string a, .string (asBytes r), .bool true]) ∧ Below w.heap.size w w' := by
  refine (Tryd.strings_Cut s ⟨#[c]⟩ m w (by omega) hm).mono ?_
  rintro e w' ⟨rfl, n, rfl⟩
  rw [he, show (⟨#[c]⟩ : ByteArray).data.toList = [c] from rfl, cut_hit hn]
  exact ⟨rfl, below_drewN (Below.refl _ _) n⟩
theorem strCut_miss (s : ByteArray) (c : UInt8) (m : Int) (w : World) (hs : s.size ≤ 1048576) (hm : w.cell? ⟨0, 0, none⟩ = some (.int .i64 m)) (hn : c ∉ s.data.toList) :
    Calls Tryd.prog 23 #[.string s, .string ⟨#[c]⟩] w fun e w' => e = .returned (.tuple #[.string s, .string ⟨#[]⟩, .bool false]) ∧ Below w.heap.size w w' := by
  refine (Tryd.strings_Cut s ⟨#[c]⟩ m w (by omega) hm).mono ?_
  rintro e w' ⟨rfl, n, rfl⟩
  rw [show (⟨#[c]⟩ : ByteArray).data.toList = [c] from rfl, cut_miss hn]
  exact ⟨rfl, below_drewN (Below.refl _ _) n⟩
end Go.Proofs.YtgcepomehgedfaaDoor
