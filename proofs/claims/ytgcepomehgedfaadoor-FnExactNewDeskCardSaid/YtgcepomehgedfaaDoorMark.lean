/- The text of a mark. -/
import Derived.Test.YtgcepomehgedfaaDoorProg
import Derived.Test.YtgcepomehgedfaaDoorMem
import Derived.WalkLawsBesides
set_option linter.unusedVariables false
namespace Go.Proofs.YtgcepomehgedfaaDoor
open Go.RowKit

def dgt (j : Nat) : UInt8 := UInt8.ofNat (48 + j % 10)
/-- The digits of k ahead of acc, with enough fuel. -/
def digs : Nat → Nat → List UInt8 → List UInt8
  | 0, _, acc => acc
  | f + 1, k, acc => if k = 0 then acc else digs f (k / 10) (dgt k :: acc)
def mkText (k : Nat) : ByteArray := ⟨(109 :: (if k = 0 then [48] else digs k k [])).toArray⟩
theorem digs_zero (f : Nat) (acc : List UInt8) : digs f 0 acc = acc := by cases f <;> simp [digs]
theorem digs_step {f k : Nat} (acc : List UInt8) (h : 0 < k) (hf : k ≤ f) : digs f k acc = digs (f - 1) (k / 10) (dgt k :: acc) := by
  obtain ⟨g, rfl⟩ : ∃ g, f = g + 1 := ⟨f - 1, by omega⟩
  rw [digs, if_neg (by omega)]
  rfl

theorem ba_append (x y : List UInt8) : (⟨x.toArray⟩ : ByteArray) ++ (⟨y.toArray⟩ : ByteArray) = ⟨(x ++ y).toArray⟩ := by
  apply ByteArray.ext
  simp [ByteArray.data_append]
theorem conv_digit (j : Nat) (w : World) : (convert 74 9 (.slice (some ⟨w.heap.size, 0, none⟩) 1 1)).run Tryd.prog (w.alloc (.cells #[.int .u8 (48 + (j : Int) % 10)] 5)) = .ok (.string ⟨[dgt j].toArray⟩) (w.alloc (.cells #[.int .u8 (48 + (j : Int) % 10)] 5)) := by
  have hc : ∀ i : Nat, i < 1 → (w.alloc (.cells #[.int .u8 (48 + (j : Int) % 10)] 5)).cell? ⟨w.heap.size, 0 + i, none⟩ = some (.int .u8 (([48 + (j : Int) % 10] : List Int).getD i 0)) := by
    intro i hi
    obtain rfl : i = 0 := by omega
    rw [World.cell?_alloc_at _ _ _ _ rfl]
    rfl
  rw [run_convert_bytes_arg (P := Tryd.prog) (w.alloc (.cells #[.int .u8 (48 + (j : Int) % 10)] 5)) 74 5 Tryd.underlying74 Tryd.underlying5 w.heap.size 0 1 1 [48 + (j : Int) % 10] rfl hc 9 Tryd.underlying9]
  have e : (48 + (j : Int) % 10).toNat = 48 + j % 10 := by omega
  simp [strOfNums, dgt, e]

end Go.Proofs.YtgcepomehgedfaaDoor
