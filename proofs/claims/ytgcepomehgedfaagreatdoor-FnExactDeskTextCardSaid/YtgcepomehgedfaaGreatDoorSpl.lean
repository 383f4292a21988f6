/- The reference's l01Split: the parts of a text between bytes c. -/
import Derived.Test.YtgcepomehgedfaaGreatDoorSplit
import Derived.Test.YtgcepomehgedfaaGreatDoorAcc
import Derived.Test.YtgcepomehgedfaaGreatDoorName
import Derived.Test.YtgcepomehgedfaaGreatDoorStrS
import Derived.WalkSpells
set_option linter.unusedVariables false
set_option linter.unusedSimpArgs false
namespace Go.Proofs.YtgcepomehgedfaaGreatDoor
open Go.RowKit Go.Lib

theorem piece_data (s : ByteArray) (j k : Nat) : (s.extract j k).data.toList = (s.data.toList.drop j).take (k - j) := by
  simp [ByteArray.data_extract, Array.toList_extract, List.extract_eq_take_drop]
theorem split_step {s : ByteArray} {c : UInt8} {j k : Nat} (hn : c ∉ (s.extract j k).data.toList) (hj : j ≤ k) (hk : k < s.size) (hc : s[k] = c) :
    splitS c (s.extract j s.size) = s.extract j k :: splitS c (s.extract (k + 1) s.size) := by
  have hl := data_len s
  have e1 : s.data.toList.drop j = (s.data.toList.drop j).take (k - j) ++ c :: s.data.toList.drop (k + 1) := by
    have e2 : s.data.toList.drop k = c :: s.data.toList.drop (k + 1) := by
      rw [List.drop_eq_getElem_cons (by omega)]
      have := byte_at s k hk
      rw [List.getElem?_eq_getElem (by omega)] at this
      injection this with this
      rw [this, hc]
    rw [← e2]
    have e3 : s.data.toList.drop k = (s.data.toList.drop j).drop (k - j) := by
      rw [List.drop_drop]; congr 1; omega
    rw [e3, List.take_append_drop]
  unfold splitS
  rw [extract_to_end, extract_to_end, e1, ← piece_data, splitL_hit hn, List.map_cons, asBytes_data]
theorem no_step {s : ByteArray} {c : UInt8} {j k : Nat} (hn : c ∉ (s.extract j k).data.toList) (hj : j ≤ k) (hk : k < s.size) (hc : s[k] ≠ c) : c ∉ (s.extract j (k + 1)).data.toList := by
  have hl := data_len s
  rw [piece_data] at hn ⊢
  rw [show k + 1 - j = (k - j) + 1 by omega, List.take_succ_eq_append_getElem (by rw [List.length_drop]; omega)]
  intro h
  rcases List.mem_append.1 h with h | h
  · exact hn h
  · rw [List.mem_singleton, List.getElem_drop] at h
    have := byte_at s k hk
    rw [List.getElem?_eq_getElem (by omega)] at this
    injection this with this
    apply hc
    rw [h, ← this]
    congr 1
    omega
theorem no_start (s : ByteArray) (c : UInt8) (j : Nat) : c ∉ (s.extract j j).data.toList := by
  rw [piece_data]; simp
theorem split_end {s : ByteArray} {c : UInt8} (h : c ∉ s.data.toList) : splitS c s = [s] := by
  unfold splitS
  rw [splitL_none h, List.map_cons, asBytes_data, List.map_nil]
theorem whole_ (s : ByteArray) : s.extract 0 s.size = s := by
  have h := piece_data s 0 s.size
  rw [show s.size - 0 = s.data.toList.length by rw [data_len]; rfl, List.drop_zero, List.take_length] at h
  rw [← asBytes_data (s.extract 0 s.size), h, asBytes_data]
theorem info_strT : (Tryz.prog.info? 9).map (fun i => (i.zero, i.size, i.bytes)) = some (some (.string ⟨#[]⟩), 1, 16) := by kernel_rfl
theorem strs_snocT (l : List ByteArray) (x : ByteArray) : strs (l ++ [x]) = strs l ++ [.string x] := by simp [strs]

set_option maxHeartbeats 4000000 in
set_option maxRecDepth 100000 in
theorem l01Split_any (s : ByteArray) (c : UInt8) (w : World) (hs : s.size ≤ 1048576) :
    Calls Tryz.prog 64 #[.string s, .int .u8 (c.toNat : Int)] w fun e w' => ∃ A m d, e = .returned (.slice A m d) ∧ Sl w' w.heap.size w'.heap.size 9 1 A m d (strs (splitS c s)) ∧ Below w.heap.size w w' := by
  have acc0 := Acc.made w 9 1
  go_enter Tryz.func64, Tryz.ntmps64
  go_wp2
  go_loopw [5, 6, 7] (fun o f i wr => ∃ (k j : Nat) (A' : Option Addr) (m d : Nat) (ds : List ByteArray), j ≤ k ∧ k ≤ s.size ∧ i = .int .i64 k ∧ f = .int .i64 j ∧ o = .slice A' m d ∧ Acc w.heap.size w.heap.size 9 1 w wr A' m d (strs ds) ∧ splitS c s = ds ++ splitS c (s.extract j s.size) ∧ c ∉ (s.extract j k).data.toList ∧ ds.length ≤ j) (fun _ _ i _ => s.size - (intOf i).toNat)
  case atStart => exact ⟨0, 0, _, _, _, [], Nat.le_refl _, Nat.zero_le _, rfl, rfl, rfl, acc0, by rw [whole_]; rfl, no_start s c 0, Nat.le_refl _⟩
  case round =>
    obtain ⟨k, j, A', m, d, ds, hjk, hk, rfl, rfl, rfl, hacc, hsp, hno, hdl⟩ := hrel
    have HA := Lib.hid hacc
    have HS := Lib.hid hsp
    have HN := Lib.hid hno
    have hml : m ≤ s.size := by have h1 := hacc.len; rw [strs_length] at h1; omega
    clear acc0 hacc hsp hno
    have h0j : (0 : Int) ≤ (j : Int) := by omega
    have hjki : (j : Int) ≤ (k : Int) := by omega
    have hki : (k : Int) ≤ (s.size : Int) := by omega
    by_cases hlt : k < s.size
    · have hlti : (k : Int) < (s.size : Int) := by omega
      by_cases hc : s[k] = c
      · have hq : ((s[k].toNat : Int) == (c.toNat : Int)) = true := by rw [hc]; simp
        have HS2 := Lib.hid (show splitS c s = (ds ++ [s.extract j k]) ++ splitS c (s.extract (k + 1) s.size) by
          rw [HS.out, split_step HN.out hjk hlt hc, List.append_assoc]; rfl)
        clear hc
        go_wp2_with (at_builtin; refine wpList_acc rfl _ _ 106 rfl 9 _ 1 16 Tryz.underlying106 info_strT rfl (by decide) (by decide) HA.out (Nat.le_refl _) rfl [.string (s.extract j k)] rfl rfl (fun u hu => by simp at hu; subst hu; rfl) (by omega) ?_; intro A2 d2 w9 hacc2; have HA2 := Lib.hid hacc2; clear hacc2)
        go_roundw
        case rel => exact ⟨k + 1, k + 1, _, _, _, ds ++ [s.extract j k], Nat.le_refl _, by omega, by go_num, by go_num, rfl, by rw [strs_snocT]; exact HA2.out, HS2.out, no_start s c (k + 1), by simp; omega⟩
        case measure => simp [intOf]; omega
      · have hq : ((s[k].toNat : Int) == (c.toNat : Int)) = false := by
          rw [beq_eq_false_iff_ne]
          intro e
          exact hc (by rw [← UInt8.toNat_inj]; omega)
        have HN2 := Lib.hid (no_step HN.out hjk hlt hc)
        clear hc
        go_wp2
        go_roundw
        case rel => exact ⟨k + 1, j, _, _, _, ds, by omega, by omega, by go_num, rfl, rfl, HA.out, HS.out, HN2.out, hdl⟩
        case measure => simp [intOf]; omega
    · obtain rfl : k = s.size := by omega
      have hkk : ¬ ((s.size : Int) < (s.size : Int)) := by omega
      have HS2 := Lib.hid (show splitS c s = ds ++ [s.extract j s.size] by rw [HS.out, split_end HN.out])
      go_wp2_with (at_builtin; refine wpList_acc rfl _ _ 106 rfl 9 _ 1 16 Tryz.underlying106 info_strT rfl (by decide) (by decide) HA.out (Nat.le_refl _) rfl [.string (s.extract j s.size)] rfl rfl (fun u hu => by simp at hu; subst hu; rfl) (by omega) ?_; intro A2 d2 w9 hacc2; have HA2 := Lib.hid hacc2; clear hacc2)
      go_ret
      refine ⟨_, _, _, rfl, ?_, HA2.out.below (Nat.le_refl _) (Nat.le_refl _)⟩
      rw [HS2.out, strs_snocT]
      exact HA2.out.sl (Nat.le_refl _) (Nat.le_refl _)
end Go.Proofs.YtgcepomehgedfaaGreatDoor
