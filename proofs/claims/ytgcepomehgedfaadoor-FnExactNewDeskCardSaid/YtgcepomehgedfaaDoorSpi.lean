/- strings.Split at one byte, as the program calls it: the parts of a text. -/
import Derived.Test.YtgcepomehgedfaaDoorSpl
import Derived.Test.YtgcepomehgedfaaDoorShelf
set_option linter.unusedVariables false
namespace Go.Proofs.YtgcepomehgedfaaDoor
open Go.RowKit Go.Lib

theorem Sl.full (w : World) (l : List ByteArray) (t : TypeId) (h : l.length ≤ 1048577) :
    Sl (w.alloc (.cells (strs l).toArray t)) w.heap.size (w.alloc (.cells (strs l).toArray t)).heap.size t 1 (some ⟨w.heap.size, 0, none⟩) l.length l.length (strs l) := by
  have hl : (strs l).length = l.length := by simp [strs]
  refine ⟨⟨by rw [hl, Nat.mul_one], .inr ⟨w.heap.size, l.length, (strs l).toArray, rfl, Nat.le_refl _, heap_alloc_new w _, Nat.le_refl _, ?_, by simp [hl], ?_⟩⟩, fun b hb => ?_⟩
  · exact Nat.le_trans h (by decide)
  · simp
    exact List.take_of_length_le (by rw [hl]; exact Nat.le_refl _)
  · injection hb with hb
    subst hb
    simp
end Go.Proofs.YtgcepomehgedfaaDoor
