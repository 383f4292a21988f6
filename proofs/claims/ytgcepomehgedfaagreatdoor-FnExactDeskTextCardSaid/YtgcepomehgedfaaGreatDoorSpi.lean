/- strings.Split at one byte, as the program calls it: the parts of a text. -/
import Derived.Test.YtgcepomehgedfaaGreatDoorSpl
import Derived.Test.YtgcepomehgedfaaGreatDoorShelf
set_option linter.unusedVariables false
namespace Go.Proofs.YtgcepomehgedfaaGreatDoor
open Go.RowKit Go.Lib

theorem Sl.full (w : World) (l : List ByteArray) (t : TypeId) (h : l.length ≤ 1048577) :
    Sl (w.alloc (.cells (strs l).toArray t)) w.heap.size (w.alloc (.cells (strs l).toArray t)).heap.size t 1 (some ⟨w.heap.size, 0, none⟩) l.length l.length (strs l) := by
  have hl : (strs l).length = l.length := by simp [strs]
  refine ⟨⟨by rw [hl, Nat.mul_one], .inr ⟨w.heap.size, l.length, (strs l).toArray, rfl, Nat.le_refl _, heap_alloc_new w _, Nat.le_refl _, ?_, by simp [hl], ?_⟩⟩, fun b hb => ?_⟩
  · exact Nat.le_trans h (by decide)
  · simp
    exact List.take_of_length_le (by rw [hl]; exact Nat.le_refl _)
  · injection hb with hb
    subst hb
    simp
theorem strSplit_any (s : ByteArray) (c : UInt8) (m : Int) (w : World) (hs : s.size ≤ 1048576) (hm : w.cell? ⟨3, 0, none⟩ = some (.int .i64 m)) :
    Calls Tryz.prog 86 #[.string s, .string ⟨#[c]⟩] w fun e w' => ∃ A n d, e = .returned (.slice A n d) ∧ Sl w' w.heap.size w'.heap.size 9 1 A n d (strs (splitS c s)) ∧ Below w.heap.size w w' := by
  have hlen : (splitS c s).length = s.data.toList.count c + 1 := splitS_len c s
  have hcnt : s.data.toList.count c ≤ s.size := by rw [← data_len s]; exact List.count_le_length
  refine (Tryz.strings_Split s ⟨#[c]⟩ m w (by omega) hm (Nat.le_refl 1)).mono ?_
  rintro e w' ⟨rfl, rfl⟩
  rw [splitB_one, countB_one, ← hlen]
  exact ⟨_, _, _, rfl, Sl.full w _ _ (by omega), (Below.refl _ _).alloc (Nat.le_refl _) _⟩
end Go.Proofs.YtgcepomehgedfaaGreatDoor
