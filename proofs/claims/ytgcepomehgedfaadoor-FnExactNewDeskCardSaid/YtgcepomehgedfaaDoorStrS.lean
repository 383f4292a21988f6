/- Slices of strings: the law's comparisons, marks and their reading. -/
import Derived.Test.YtgcepomehgedfaaDoorProg
import Derived.Test.YtgcepomehgedfaaDoorMem
import Derived.Test.YtgcepomehgedfaaDoorMark
import Derived.Deep.QuietTactic
import Derived.Deep.RegionHeld3
import Derived.BigQuiet
set_option linter.unusedVariables false
namespace Go.Proofs.YtgcepomehgedfaaDoor
open Go.RowKit

theorem str_at {w : World} {B n k : Nat} {A : Option Addr} {l : List ByteArray} (h : Reads w B 1 A n (strs l)) (hk : k < n) :
    ∃ (x : ByteArray) (b off : Nat), l[k]? = some x ∧ A = some ⟨b, off, none⟩ ∧ b < B ∧ w.cell? ⟨b, off + k, none⟩ = some (.string x) := by
  obtain ⟨b, off, rfl, hb, hcell⟩ := h.at_ (by omega)
  have hl := h.1
  rw [strs_length] at hl
  have he : l[k]? = some l[k] := List.getElem?_eq_getElem (by omega)
  exact ⟨_, b, off, he, rfl, hb, hcell _ _ (strs_get he)⟩
theorem strs_len {w : World} {B n : Nat} {A : Option Addr} {l : List ByteArray} (h : Reads w B 1 A n (strs l)) : l.length = n := by
  have := h.1
  rw [strs_length] at this
  omega
def tmarks (n : Nat) : List ByteArray := (List.range n).map fun (j : Nat) => mkText (1 + j)
theorem tmarks_length (n : Nat) : (tmarks n).length = n := by simp [tmarks]
theorem tmarks_get {n i : Nat} (h : i < n) : (tmarks n)[i]? = some (mkText (1 + i)) := by simp [tmarks, h]

end Go.Proofs.YtgcepomehgedfaaDoor
