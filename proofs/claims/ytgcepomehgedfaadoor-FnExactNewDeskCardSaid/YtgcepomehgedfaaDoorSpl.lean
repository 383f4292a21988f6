/- The reference's l01Split: the parts of a text between bytes c. -/
import Derived.Test.YtgcepomehgedfaaDoorSplit
import Derived.Test.YtgcepomehgedfaaDoorAcc
import Derived.Test.YtgcepomehgedfaaDoorName
import Derived.Test.YtgcepomehgedfaaDoorStrS
import Derived.WalkSpells
set_option linter.unusedVariables false
set_option linter.unusedSimpArgs false
namespace Go.Proofs.YtgcepomehgedfaaDoor
open Go.RowKit Go.Lib

theorem piece_data (s : ByteArray) (j k : Nat) : (s.extract j k).data.toList = (s.data.toList.drop j).take (k - j) := by
  simp [ByteArray.data_extract, Array.toList_extract, List.extract_eq_take_drop]
theorem split_step {s : ByteArray} {c : UInt8} {j k : Nat} (hn : c ∉ (s.extract j k).data.toList) (hj : j ≤ k) (hk : k < s.size) (hc : s[k] = c) :
    splitS c (s.extract j s.size) = s.extract j k :: splitS c (s.extract (k + 1) s.size) := by
  have hl := data_len s
  have e1 : s.data.toList.drop j = (s.data.toList.drop j).take (k - j) ++ c :: s.data.toList.drop (k + 1) := by
    have e2 : s.data.toList.drop k = c :: s.data.toList.drop (k + 1) := by
      rw [List.drop_eq_getElem_cons (by omega)]
      have := byte_at s k hk
      rw [List.getElem?_eq_getElem (by omega)] at this
      injection this with this
      rw [this, hc]
    rw [← e2]
    have e3 : s.data.toList.drop k = (s.data.toList.drop j).drop (k - j) := by
      rw [List.drop_drop]; congr 1; omega
    rw [e3, List.take_append_drop]
  unfold splitS
  rw [extract_to_end, extract_to_end, e1, ← piece_data, splitL_hit hn, List.map_cons, asBytes_data]
theorem no_step {s : ByteArray} {c : UInt8} {j k : Nat} (hn : c ∉ (s.extract j k).data.toList) (hj : j ≤ k) (hk : k < s.size) (hc : s[k] ≠ c) : c ∉ (s.extract j (k + 1)).data.toList := by
  have hl := data_len s
  rw [piece_data] at hn ⊢
  rw [show k + 1 - j = (k - j) + 1 by omega, List.take_succ_eq_append_getElem (by rw [List.length_drop]; omega)]
  intro h
  rcases List.mem_append.1 h with h | h
  · exact hn h
  · rw [List.mem_singleton, List.getElem_drop] at h
    have := byte_at s k hk
    rw [List.getElem?_eq_getElem (by omega)] at this
    injection this with this
    apply hc
    rw [h, ← this]
    congr 1
    omega
theorem no_start (s : ByteArray) (c : UInt8) (j : Nat) : c ∉ (s.extract j j).data.toList := by
  rw [piece_data]; simp
theorem split_end {s : ByteArray} {c : UInt8} (h : c ∉ s.data.toList) : splitS c s = [s] := by
  unfold splitS
  rw [splitL_none h, List.map_cons, asBytes_data, List.map_nil]
theorem whole_ (s : ByteArray) : s.extract 0 s.size = s := by
  have h := piece_data s 0 s.size
  rw [show s.size - 0 = s.data.toList.length by rw [data_len]; rfl, List.drop_zero, List.take_length] at h
  rw [← asBytes_data (s.extract 0 s.size), h, asBytes_data]
theorem info_strT : (Tryd.prog.info? 9).map (fun i => (i.zero, i.size, i.bytes)) = some (some (.string ⟨#[]⟩), 1, 16) := by kernel_rfl
theorem strs_snocT (l : List ByteArray) (x : ByteArray) : strs (l ++ [x]) = strs l ++ [.string x] := by simp [strs]

end Go.Proofs.YtgcepomehgedfaaDoor
