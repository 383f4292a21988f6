/- Names: the reference's test and the program's. -/
import Derived.Test.YtgcepomehgedfaaGreatDoorProg
import Derived.Test.YtgcepomehgedfaaGreatDoorMem
set_option linter.unusedVariables false
namespace Go.Proofs.YtgcepomehgedfaaGreatDoor
open Go.RowKit

def nameC (c : UInt8) : Bool := inR c.toNat 97 122 || inR c.toNat 48 57 || decide ((c.toNat : Int) = 45)
def headS : List UInt8 → Bool
  | [] => false
  | c :: _ => inR c.toNat 97 122
/-- A name. -/
def isName (s : ByteArray) : Bool := decide (s.size ≤ 12) && headS s.data.toList && s.data.toList.all nameC
theorem byte_at (s : ByteArray) (k : Nat) (h : k < s.size) : s.data.toList[k]? = some s[k] := by
  rw [List.getElem?_eq_getElem (by simpa using h)]; rfl
theorem data_len (s : ByteArray) : s.data.toList.length = s.size := by rw [Array.length_toList]; rfl
theorem headS_at (s : ByteArray) (h : 0 < s.size) : headS s.data.toList = inR (s[0].toNat : Int) 97 122 := by
  have := byte_at s 0 h
  cases hl : s.data.toList with
  | nil => rw [hl] at this; simp at this
  | cons c r => rw [hl] at this; simp at this; rw [← this]; rfl
theorem isName_len {s : ByteArray} (h : isName s = true) : 0 < s.size ∧ s.size ≤ 12 := by
  simp only [isName, Bool.and_eq_true, decide_eq_true_eq] at h
  refine ⟨?_, h.1.1⟩
  rcases Nat.eq_zero_or_pos s.size with h0 | h0
  · have : s.data.toList = [] := List.eq_nil_of_length_eq_zero (by rw [data_len]; exact h0)
    rw [this] at h; simp [headS] at h
  · exact h0
theorem notName_long {s : ByteArray} (h : 12 < s.size) : isName s = false := by simp [isName]; omega
theorem notName_empty {s : ByteArray} (h : s.size = 0) : isName s = false := by
  have : s.data.toList = [] := List.eq_nil_of_length_eq_zero (by rw [data_len]; exact h)
  simp [isName, this, headS]
theorem notName_head {s : ByteArray} (h0 : 0 < s.size) (h : inR (s[0].toNat : Int) 97 122 = false) : isName s = false := by simp [isName, headS_at s h0, h]
theorem notName_at {s : ByteArray} {k : Nat} (h0 : k < s.size) (h : nameC s[k] = false) : isName s = false := by simp [isName, all_bad (byte_at s k h0) h]
theorem isName_mk {s : ByteArray} {k : Nat} (h1 : s.size ≤ 12) (h0 : 0 < s.size) (h2 : inR (s[0].toNat : Int) 97 122 = true) (hk : s.size = k) (h : AllTo nameC s.data.toList k) : isName s = true := by
  simp only [isName, headS_at s h0, h2, h.done (by rw [data_len]; exact hk), Bool.and_true, decide_eq_true_eq]
  exact h1

theorem implIsName_any (s : ByteArray) (w : World) (hs : s.size ≤ 9223372036854775807) : Calls Tryz.prog 97 #[.string s] w fun e w' => e = .returned (.bool (isName s)) ∧ w = w' := by
  by_cases h0 : s.size = 0
  · have HN := Lib.hid (notName_empty h0)
    have h1 : (s.size : Int) < 1 := by omega
    clear h0
    go_enter Tryz.func97, Tryz.ntmps97
    go_wp2
    go_ret
    exact ⟨ret_bool HN.out.symm, rfl⟩
  · have hp : 0 < s.size := by omega
    clear h0
    by_cases h12 : 12 < s.size
    · have HN := Lib.hid (notName_long h12)
      go_enter Tryz.func97, Tryz.ntmps97
      go_wp2
      go_ret
      exact ⟨ret_bool HN.out.symm, rfl⟩
    · have i1 : (1 : Int) ≤ (s.size : Int) := by omega
      have i2 : (s.size : Int) ≤ 12 := by omega
      by_cases h97 : (97 : Int) ≤ (s[0].toNat : Int)
      · by_cases h122 : (s[0].toNat : Int) ≤ 122
        · have HH := Lib.hid (show inR (s[0].toNat : Int) 97 122 = true from inR_true.2 ⟨h97, h122⟩)
          have HN0 := Lib.hid (show nameC s[0] = true by simp [nameC, HH.out])
          go_enter Tryz.func97, Tryz.ntmps97
          go_wp2
          go_loop [3] (fun i => ∃ k : Nat, 1 ≤ k ∧ k ≤ s.size ∧ i = .int .i64 k ∧ AllTo nameC s.data.toList k) (fun i => s.size - (intOf i).toNat)
          case atStart => exact ⟨1, by omega, by omega, rfl, (AllTo.zero _ _).step (byte_at s 0 hp) HN0.out⟩
          case round =>
            obtain ⟨k, hk1, hk, rfl, hall⟩ := hrel
            have HA := Lib.hid hall
            clear hall h97 h122
            by_cases hlt : k < s.size
            · have HE := Lib.hid (byte_at s k hlt)
              by_cases a1 : (97 : Int) ≤ (s[k].toNat : Int) ∧ (s[k].toNat : Int) ≤ 122
              · obtain ⟨a1, a2⟩ := a1
                have HC := Lib.hid (show nameC s[k] = true by simp [nameC, inR_true.2 ⟨a1, a2⟩])
                go_wp2
                go_round
                case rel => exact ⟨k + 1, by omega, by omega, by go_num, HA.out.step HE.out HC.out⟩
                case measure => simp [intOf]; omega
              · by_cases b1 : (48 : Int) ≤ (s[k].toNat : Int) ∧ (s[k].toNat : Int) ≤ 57
                · obtain ⟨b1, b2⟩ := b1
                  have a2 : (s[k].toNat : Int) < 97 := by omega
                  have HC := Lib.hid (show nameC s[k] = true by simp [nameC, inR_true.2 ⟨b1, b2⟩])
                  clear a1
                  go_wp2
                  go_round
                  case rel => exact ⟨k + 1, by omega, by omega, by go_num, HA.out.step HE.out HC.out⟩
                  case measure => simp [intOf]; omega
                · by_cases c1 : (s[k].toNat : Int) = 45
                  · have HC := Lib.hid (show nameC s[k] = true by simp [nameC, c1])
                    have c2 : ((s[k].toNat : Int) != 45) = false := by simp [c1]
                    have c3 : (s[k].toNat : Int) < 48 := by omega
                    have c4 : (s[k].toNat : Int) < 97 := by omega
                    clear a1 b1 c1
                    go_wp2
                    go_round
                    case rel => exact ⟨k + 1, by omega, by omega, by go_num, HA.out.step HE.out HC.out⟩
                    case measure => simp [intOf]; omega
                  · have HC := Lib.hid (notName_at hlt (show nameC s[k] = false by
                      have e1 : inR (s[k].toNat : Int) 97 122 = false := inR_false.2 (by omega)
                      have e2 : inR (s[k].toNat : Int) 48 57 = false := inR_false.2 (by omega)
                      simp [nameC, e1, e2, c1]))
                    have c2 : ((s[k].toNat : Int) != 45) = true := by rw [bne_iff_ne]; exact c1
                    have a3 : (s[k].toNat : Int) < 97 ∨ 122 < (s[k].toNat : Int) := by omega
                    have b3 : (s[k].toNat : Int) < 48 ∨ 57 < (s[k].toNat : Int) := by omega
                    clear a1 b1 c1
                    rcases a3 with a3 | a3 <;> rcases b3 with b3 | b3
                    all_goals first
                      | omega
                      | (go_wp2
                         go_ret
                         exact ⟨ret_bool HC.out.symm, rfl⟩)
            · obtain rfl : s.size = k := by omega
              have HN := Lib.hid (isName_mk (by omega) hp HH.out rfl HA.out)
              go_wp2
              go_ret
              exact ⟨ret_bool HN.out.symm, rfl⟩
        · have HN := Lib.hid (notName_head hp (inR_false.2 (.inr (by omega))))
          go_enter Tryz.func97, Tryz.ntmps97
          go_wp2
          go_ret
          exact ⟨ret_bool HN.out.symm, rfl⟩
      · have HN := Lib.hid (notName_head hp (inR_false.2 (.inl (by omega))))
        go_enter Tryz.func97, Tryz.ntmps97
        go_wp2
        go_ret
        exact ⟨ret_bool HN.out.symm, rfl⟩

theorem l01Small_any (c : Int) (w : World) : Calls Tryz.prog 92 #[.int .u8 c] w fun e w' => e = .returned (.bool (inR c 97 122)) ∧ w = w' := by
  by_cases h1 : (97 : Int) ≤ c <;> by_cases h2 : c ≤ 122
  all_goals
    go_enter Tryz.func92, Tryz.ntmps92
    go_wp2
    go_ret
    exact ⟨ret_bool (by simp [inR, h1, h2]), rfl⟩
theorem l01Digit_any (c : Int) (w : World) : Calls Tryz.prog 81 #[.int .u8 c] w fun e w' => e = .returned (.bool (inR c 48 57)) ∧ w = w' := by
  by_cases h1 : (48 : Int) ≤ c <;> by_cases h2 : c ≤ 57
  all_goals
    go_enter Tryz.func81, Tryz.ntmps81
    go_wp2
    go_ret
    exact ⟨ret_bool (by simp [inR, h1, h2]), rfl⟩

theorem toList_ne {s : ByteArray} (h : 0 < s.size) : ¬ s.toList = [] := by
  intro e
  have : s.toList.length = s.size := by rw [ByteArray.toList_eq]; exact data_len s
  rw [e] at this
  simp at this; omega
theorem specIsName_any (s : ByteArray) (w : World) (hs : s.size ≤ 9223372036854775807) : Calls Tryz.prog 83 #[.string s] w fun e w' => e = .returned (.bool (isName s)) ∧ w = w' := by
  by_cases h0 : s.size = 0
  · have HN := Lib.hid (notName_empty h0)
    obtain rfl : s = ⟨#[]⟩ := by
      apply ByteArray.ext
      have : s.data.toList = [] := List.eq_nil_of_length_eq_zero (by rw [data_len]; exact h0)
      exact Array.toList_inj.1 (by simpa using this)
    clear h0 hs
    go_enter Tryz.func83, Tryz.ntmps83
    go_wp2
    go_ret
    exact ⟨ret_bool HN.out.symm, rfl⟩
  · have hp : 0 < s.size := by omega
    have ne1 := toList_ne hp
    have ne2 : s.toList.isEmpty = false := by simp [ne1]
    have i1 : (1 : Int) ≤ (s.size : Int) := by omega
    have hI : ((0 : Nat) : Int) < (s.size : Int) := by omega
    clear h0
    by_cases h12 : 12 < s.size
    · have HN := Lib.hid (notName_long h12)
      have i2 : (12 : Int) < (s.size : Int) := by omega
      go_enter Tryz.func83, Tryz.ntmps83
      go_wp2
      go_ret
      exact ⟨ret_bool HN.out.symm, rfl⟩
    · have i2 : (s.size : Int) ≤ 12 := by omega
      by_cases hh : inR (s[0].toNat : Int) 97 122 = true
      · have HH := Lib.hid hh
        go_enter Tryz.func83, Tryz.ntmps83
        go_wp2_with (go_at_call 92; refine (l01Small_any _ _).mono ?_; rintro e w' ⟨rfl, rfl⟩)
        go_loop [3] (fun i => ∃ k : Nat, k ≤ s.size ∧ i = .int .i64 k ∧ AllTo nameC s.data.toList k) (fun i => s.size - (intOf i).toNat)
        case atStart => exact ⟨0, by omega, rfl, AllTo.zero _ _⟩
        case round =>
          obtain ⟨k, hk, rfl, hall⟩ := hrel
          have HA := Lib.hid hall
          clear hall hh
          by_cases hlt : k < s.size
          · have HE := Lib.hid (byte_at s k hlt)
            by_cases a1 : inR (s[k].toNat : Int) 97 122 = true
            · have HC := Lib.hid (show nameC s[k] = true by simp [nameC, a1])
              go_wp2_with (first | (go_at_call 92; refine (l01Small_any _ _).mono ?_; rintro e w' ⟨rfl, rfl⟩) | (go_at_call 81; refine (l01Digit_any _ _).mono ?_; rintro e w' ⟨rfl, rfl⟩))
              go_round
              case rel => exact ⟨k + 1, by omega, by go_num, HA.out.step HE.out HC.out⟩
              case measure => simp [intOf]; omega
            · have a1 : inR (s[k].toNat : Int) 97 122 = false := by simpa using a1
              by_cases b1 : inR (s[k].toNat : Int) 48 57 = true
              · have HC := Lib.hid (show nameC s[k] = true by simp [nameC, b1])
                go_wp2_with (first | (go_at_call 92; refine (l01Small_any _ _).mono ?_; rintro e w' ⟨rfl, rfl⟩) | (go_at_call 81; refine (l01Digit_any _ _).mono ?_; rintro e w' ⟨rfl, rfl⟩))
                go_round
                case rel => exact ⟨k + 1, by omega, by go_num, HA.out.step HE.out HC.out⟩
                case measure => simp [intOf]; omega
              · have b1 : inR (s[k].toNat : Int) 48 57 = false := by simpa using b1
                by_cases c1 : (s[k].toNat : Int) = 45
                · have HC := Lib.hid (show nameC s[k] = true by simp [nameC, c1])
                  have c2 : ((s[k].toNat : Int) != 45) = false := by simp [c1]
                  clear c1
                  go_wp2_with (first | (go_at_call 92; refine (l01Small_any _ _).mono ?_; rintro e w' ⟨rfl, rfl⟩) | (go_at_call 81; refine (l01Digit_any _ _).mono ?_; rintro e w' ⟨rfl, rfl⟩))
                  go_round
                  case rel => exact ⟨k + 1, by omega, by go_num, HA.out.step HE.out HC.out⟩
                  case measure => simp [intOf]; omega
                · have HC := Lib.hid (notName_at hlt (show nameC s[k] = false by simp [nameC, a1, b1, c1]))
                  have c2 : ((s[k].toNat : Int) != 45) = true := by rw [bne_iff_ne]; exact c1
                  clear c1
                  go_wp2_with (first | (go_at_call 92; refine (l01Small_any _ _).mono ?_; rintro e w' ⟨rfl, rfl⟩) | (go_at_call 81; refine (l01Digit_any _ _).mono ?_; rintro e w' ⟨rfl, rfl⟩))
                  go_ret
                  exact ⟨ret_bool HC.out.symm, rfl⟩
          · obtain rfl : s.size = k := by omega
            have HN := Lib.hid (isName_mk (by omega) hp HH.out rfl HA.out)
            go_wp2
            go_ret
            exact ⟨ret_bool HN.out.symm, rfl⟩
      · have hh : inR (s[0].toNat : Int) 97 122 = false := by simpa using hh
        have HN := Lib.hid (notName_head hp hh)
        go_enter Tryz.func83, Tryz.ntmps83
        go_wp2_with (go_at_call 92; refine (l01Small_any _ _).mono ?_; rintro e w' ⟨rfl, rfl⟩)
        go_ret
        exact ⟨ret_bool HN.out.symm, rfl⟩
end Go.Proofs.YtgcepomehgedfaaGreatDoor
