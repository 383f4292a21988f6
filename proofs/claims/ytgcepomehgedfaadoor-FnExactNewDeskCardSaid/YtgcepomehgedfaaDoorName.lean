/- Names: the reference's test and the program's. -/
import Derived.Test.YtgcepomehgedfaaDoorProg
import Derived.Test.YtgcepomehgedfaaDoorMem
set_option linter.unusedVariables false
namespace Go.Proofs.YtgcepomehgedfaaDoor
open Go.RowKit

def nameC (c : UInt8) : Bool := inR c.toNat 97 122 || inR c.toNat 48 57 || decide ((c.toNat : Int) = 45)
def headS : List UInt8 → Bool
  | [] => false
  | c :: _ => inR c.toNat 97 122
/-- A name. -/
def isName (s : ByteArray) : Bool := decide (s.size ≤ 12) && headS s.data.toList && s.data.toList.all nameC
theorem byte_at (s : ByteArray) (k : Nat) (h : k < s.size) : s.data.toList[k]? = some s[k] := by
  rw [List.getElem?_eq_getElem (by simpa using h)]; rfl
theorem data_len (s : ByteArray) : s.data.toList.length = s.size := by rw [Array.length_toList]; rfl
theorem headS_at (s : ByteArray) (h : 0 < s.size) : headS s.data.toList = inR (s[0].toNat : Int) 97 122 := by
  have := byte_at s 0 h
  cases hl : s.data.toList with
  | nil => rw [hl] at this; simp at this
  | cons c r => rw [hl] at this; simp at this; rw [← this]; rfl
theorem isName_len {s : ByteArray} (h : isName s = true) : 0 < s.size ∧ s.size ≤ 12 := by
  simp only [isName, Bool.and_eq_true, decide_eq_true_eq] at h
  refine ⟨?_, h.1.1⟩
  rcases Nat.eq_zero_or_pos s.size with h0 | h0
  · have : s.data.toList = [] := List.eq_nil_of_length_eq_zero (by rw [data_len]; exact h0)
    rw [this] at h; simp [headS] at h
  · exact h0
theorem notName_long {s : ByteArray} (h : 12 < s.size) : isName s = false := by simp [isName]; omega
theorem notName_empty {s : ByteArray} (h : s.size = 0) : isName s = false := by
  have : s.data.toList = [] := List.eq_nil_of_length_eq_zero (by rw [data_len]; exact h)
  simp [isName, this, headS]
theorem notName_head {s : ByteArray} (h0 : 0 < s.size) (h : inR (s[0].toNat : Int) 97 122 = false) : isName s = false := by simp [isName, headS_at s h0, h]
theorem notName_at {s : ByteArray} {k : Nat} (h0 : k < s.size) (h : nameC s[k] = false) : isName s = false := by simp [isName, all_bad (byte_at s k h0) h]
theorem isName_mk {s : ByteArray} {k : Nat} (h1 : s.size ≤ 12) (h0 : 0 < s.size) (h2 : inR (s[0].toNat : Int) 97 122 = true) (hk : s.size = k) (h : AllTo nameC s.data.toList k) : isName s = true := by
  simp only [isName, headS_at s h0, h2, h.done (by rw [data_len]; exact hk), Bool.and_true, decide_eq_true_eq]
  exact h1

theorem toList_ne {s : ByteArray} (h : 0 < s.size) : ¬ s.toList = [] := by
  intro e
  have : s.toList.length = s.size := by rw [ByteArray.toList_eq]; exact data_len s
  rw [e] at this
  simp at this; omega
end Go.Proofs.YtgcepomehgedfaaDoor
