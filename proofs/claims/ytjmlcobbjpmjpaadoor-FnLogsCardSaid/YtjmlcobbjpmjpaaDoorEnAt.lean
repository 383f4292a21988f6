/- Entries in a list: the contracts of functions on a pointer to one of them. -/
import Derived.Test.YtjmlcobbjpmjpaaDoorLnS
import Derived.Test.YtjmlcobbjpmjpaaDoorEnA
set_option linter.unusedVariables false
set_option linter.unusedSimpArgs false
namespace Go.Proofs.YtjmlcobbjpmjpaaDoor
open Go.RowKit Go.Lib

set_option maxHeartbeats 4000000 in
set_option maxRecDepth 100000 in
theorem l27OkAt_any (x : En) (b o : Nat) (w : World) (hs : x.what.size ≤ 9223372036854775807) (c0 : w.cell? ⟨b, o, none⟩ = some (.int .i64 x.day)) (c1 : w.cell? ⟨b, o + 1, none⟩ = some (.string x.what)) (c2 : w.cell? ⟨b, o + 2, none⟩ = some (.int .i64 x.val)) :
    Calls Tryd.prog 55 #[.pointer (some ⟨b, o, none⟩)] w fun e w' => e = .returned (.bool (okEn x)) ∧ w = w' := by
  by_cases h1 : inR x.day 0 100000 = true
  · by_cases h2 : isName x.what = true
    · by_cases h3 : inR x.val (-1000000) 1000000 = true
      · have HO := Lib.hid (show okEn x = true by simp [okEn, h1, h2, h3])
        go_enter Tryd.func55, Tryd.ntmps55
        go_wp2_with (first | (go_at_call 96; refine (l27Day_any _ _).mono ?_; rintro e w' ⟨rfl, rfl⟩) | (go_at_call 97; refine (specIsName_any _ _ hs).mono ?_; rintro e w' ⟨rfl, rfl⟩) | (go_at_call 71; refine (l00In_any _ _ _ _).mono ?_; rintro e w' ⟨rfl, rfl⟩))
        go_ret
        exact ⟨ret_bool HO.out.symm, rfl⟩
      · have h3 : inR x.val (-1000000) 1000000 = false := by simpa using h3
        have HO := Lib.hid (show okEn x = false by simp [okEn, h3])
        go_enter Tryd.func55, Tryd.ntmps55
        go_wp2_with (first | (go_at_call 96; refine (l27Day_any _ _).mono ?_; rintro e w' ⟨rfl, rfl⟩) | (go_at_call 97; refine (specIsName_any _ _ hs).mono ?_; rintro e w' ⟨rfl, rfl⟩) | (go_at_call 71; refine (l00In_any _ _ _ _).mono ?_; rintro e w' ⟨rfl, rfl⟩))
        go_ret
        exact ⟨ret_bool HO.out.symm, rfl⟩
    · have h2 : isName x.what = false := by simpa using h2
      have HO := Lib.hid (show okEn x = false by simp [okEn, h2])
      go_enter Tryd.func55, Tryd.ntmps55
      go_wp2_with (first | (go_at_call 96; refine (l27Day_any _ _).mono ?_; rintro e w' ⟨rfl, rfl⟩) | (go_at_call 97; refine (specIsName_any _ _ hs).mono ?_; rintro e w' ⟨rfl, rfl⟩) | (go_at_call 71; refine (l00In_any _ _ _ _).mono ?_; rintro e w' ⟨rfl, rfl⟩))
      go_ret
      exact ⟨ret_bool HO.out.symm, rfl⟩
  · have h1 : inR x.day 0 100000 = false := by simpa using h1
    have HO := Lib.hid (show okEn x = false by simp [okEn, h1])
    go_enter Tryd.func55, Tryd.ntmps55
    go_wp2_with (first | (go_at_call 96; refine (l27Day_any _ _).mono ?_; rintro e w' ⟨rfl, rfl⟩) | (go_at_call 97; refine (specIsName_any _ _ hs).mono ?_; rintro e w' ⟨rfl, rfl⟩) | (go_at_call 71; refine (l00In_any _ _ _ _).mono ?_; rintro e w' ⟨rfl, rfl⟩))
    go_ret
    exact ⟨ret_bool HO.out.symm, rfl⟩
set_option maxHeartbeats 4000000 in
set_option maxRecDepth 100000 in
theorem l27WordsAt_any (x : En) (b o : Nat) (w : World) (hx : x.good) (hsm : x.small) (q0 : w.cell? ⟨b, o, none⟩ = some (.int .i64 x.day)) (q1 : w.cell? ⟨b, o + 1, none⟩ = some (.string x.what)) (q2 : w.cell? ⟨b, o + 2, none⟩ = some (.int .i64 x.val)) :
    Calls Tryd.prog 99 #[.pointer (some ⟨b, o, none⟩)] w fun e w' => e = .returned (.string (wordsB x)) ∧ Below w.heap.size w w' := by
  have hwz := hsm
  unfold En.small at hwz
  have hs1 : (asBytes (itoa x.day)).size ≤ 20 := by rw [asBytes_size]; exact itoa_len hx.1.1 hx.1.2
  have hs2 : (asBytes (itoa x.val)).size ≤ 20 := by rw [asBytes_size]; exact itoa_len hx.2.2.1 hx.2.2.2
  have n1 : ¬ (9223372036854775807 < (asBytes (itoa x.day)).size + 1) := by omega
  have n2 : ¬ (9223372036854775807 < (asBytes (itoa x.day)).size + 1 + x.what.size) := by omega
  have n3 : ¬ (9223372036854775807 < (asBytes (itoa x.day)).size + 1 + x.what.size + 1) := by omega
  have n4 : ¬ (9223372036854775807 < (asBytes (itoa x.day)).size + 1 + x.what.size + 1 + (asBytes (itoa x.val)).size) := by omega
  go_enter Tryd.func99, Tryd.ntmps99
  go_wp2_with fail
  go_region_held3 (fun W => Below w.heap.size w W ∧ W.cell? ⟨b, o, none⟩ = some (.int .i64 x.day) ∧ W.cell? ⟨b, o + 1, none⟩ = some (.string x.what) ∧ W.cell? ⟨b, o + 2, none⟩ = some (.int .i64 x.val)) (first | exact ⟨(Below.refl _ _).drew, q0, q1, q2⟩ | (go_split_ands; exact ⟨bnext (by assumption) hb1 (Nat.le_refl _), cell_on hb1 (by assumption), cell_on hb1 (by assumption), cell_on hb1 (by assumption)⟩) | fail "keep") (first | (go_at_call 78; refine (l01Dec_any _ _ (by first | exact hx.1.1 | exact hx.2.2.1) (by first | exact hx.1.2 | exact hx.2.2.2)).mono ?_; rintro e w2 ⟨rfl, hb1⟩) | fail "arm")
  rename_i hS
  have HF := Lib.hid hS.1
  go_wp2
  go_ret
  exact ⟨rfl, HF.out⟩
set_option maxHeartbeats 4000000 in
set_option maxRecDepth 100000 in
theorem l27LineAt_any (st : Int) (x : En) (b o : Nat) (w : World) (hx : okEn x = true) (h0 : 0 ≤ st) (h1 : st ≤ 65518) (q0 : w.cell? ⟨b, o, none⟩ = some (.int .i64 x.day)) (q1 : w.cell? ⟨b, o + 1, none⟩ = some (.string x.what)) (q2 : w.cell? ⟨b, o + 2, none⟩ = some (.int .i64 x.val)) :
    Calls Tryd.prog 100 #[.int .i64 st, .pointer (some ⟨b, o, none⟩)] w fun e w' => e = .returned (.string (lineB st x)) ∧ Below w.heap.size w w' := by
  have hws := wordsB_small hx
  have hgd := okEn_good hx
  have hsm := okEn_small hx
  have hs2 : (asBytes (itoa st)).size ≤ 20 := by rw [asBytes_size]; exact itoa_len (by omega) (by omega)
  have n1 : ¬ (9223372036854775807 < (wordsB x).size + 1) := by omega
  have n2 : ¬ (9223372036854775807 < (wordsB x).size + 1 + (asBytes (itoa st)).size) := by omega
  have n3 : ¬ (9223372036854775807 < (wordsB x).size + 1 + (asBytes (itoa st)).size + 1) := by omega
  go_enter Tryd.func100, Tryd.ntmps100
  go_wp2_with fail
  refine (l27WordsAt_any x b o _ hgd hsm q0 q1 q2).mono ?_
  rintro e w1 ⟨rfl, b1⟩
  have HB1 := Lib.hid b1
  clear b1
  go_wp2_with fail
  refine (l01Dec_any st _ (by omega) (by omega)).mono ?_
  rintro e w2 ⟨rfl, b2⟩
  have HF := Lib.hid (bnext HB1.out b2 (Nat.le_refl _))
  clear b2
  go_wp2
  go_ret
  exact ⟨rfl, HF.out⟩
end Go.Proofs.YtjmlcobbjpmjpaaDoor
