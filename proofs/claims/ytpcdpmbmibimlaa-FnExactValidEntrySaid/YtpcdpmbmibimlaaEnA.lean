/- One entry: the tests of it. -/
import Derived.Test.YtpcdpmbmibimlaaSEn
import Derived.Test.YtpcdpmbmibimlaaName
import Derived.Test.YtpcdpmbmibimlaaRng
set_option linter.unusedVariables false
namespace Go.Proofs.Ytpcdpmbmibimlaa
open Go.RowKit

def okEn (x : En) : Bool := inR x.day 0 100000 && isName x.what && inR x.val (-1000000) 1000000
theorem l27Ok_any (x : En) (b : Nat) (w : World) (hs : x.what.size ≤ 9223372036854775807) (c0 : w.cell? ⟨b, 0, none⟩ = some (.int .i64 x.day)) (c1 : w.cell? ⟨b, 1, none⟩ = some (.string x.what)) (c2 : w.cell? ⟨b, 2, none⟩ = some (.int .i64 x.val)) :
    Calls Try.prog 60 #[.pointer (some ⟨b, 0, none⟩)] w fun e w' => e = .returned (.bool (okEn x)) ∧ w = w' := by
  by_cases h1 : inR x.day 0 100000 = true
  · by_cases h2 : isName x.what = true
    · by_cases h3 : inR x.val (-1000000) 1000000 = true
      · have HO := Lib.hid (show okEn x = true by simp [okEn, h1, h2, h3])
        go_enter Try.func60, Try.ntmps60
        go_wp2_with (first | (go_at_call 85; refine (l27Day_any _ _).mono ?_; rintro e w' ⟨rfl, rfl⟩) | (go_at_call 86; refine (specIsName_any _ _ hs).mono ?_; rintro e w' ⟨rfl, rfl⟩) | (go_at_call 82; refine (l00In_any _ _ _ _).mono ?_; rintro e w' ⟨rfl, rfl⟩))
        go_ret
        exact ⟨ret_bool HO.out.symm, rfl⟩
      · have h3 : inR x.val (-1000000) 1000000 = false := by simpa using h3
        have HO := Lib.hid (show okEn x = false by simp [okEn, h3])
        go_enter Try.func60, Try.ntmps60
        go_wp2_with (first | (go_at_call 85; refine (l27Day_any _ _).mono ?_; rintro e w' ⟨rfl, rfl⟩) | (go_at_call 86; refine (specIsName_any _ _ hs).mono ?_; rintro e w' ⟨rfl, rfl⟩) | (go_at_call 82; refine (l00In_any _ _ _ _).mono ?_; rintro e w' ⟨rfl, rfl⟩))
        go_ret
        exact ⟨ret_bool HO.out.symm, rfl⟩
    · have h2 : isName x.what = false := by simpa using h2
      have HO := Lib.hid (show okEn x = false by simp [okEn, h2])
      go_enter Try.func60, Try.ntmps60
      go_wp2_with (first | (go_at_call 85; refine (l27Day_any _ _).mono ?_; rintro e w' ⟨rfl, rfl⟩) | (go_at_call 86; refine (specIsName_any _ _ hs).mono ?_; rintro e w' ⟨rfl, rfl⟩) | (go_at_call 82; refine (l00In_any _ _ _ _).mono ?_; rintro e w' ⟨rfl, rfl⟩))
      go_ret
      exact ⟨ret_bool HO.out.symm, rfl⟩
  · have h1 : inR x.day 0 100000 = false := by simpa using h1
    have HO := Lib.hid (show okEn x = false by simp [okEn, h1])
    go_enter Try.func60, Try.ntmps60
    go_wp2_with (first | (go_at_call 85; refine (l27Day_any _ _).mono ?_; rintro e w' ⟨rfl, rfl⟩) | (go_at_call 86; refine (specIsName_any _ _ hs).mono ?_; rintro e w' ⟨rfl, rfl⟩) | (go_at_call 82; refine (l00In_any _ _ _ _).mono ?_; rintro e w' ⟨rfl, rfl⟩))
    go_ret
    exact ⟨ret_bool HO.out.symm, rfl⟩
theorem specValidEntry_any (x : En) (w : World) (hx : x.good) (hsm : x.small) :
    Calls Try.prog 21 #[.agg #[.int .i64 x.day, .string x.what, .int .i64 x.val]] w fun e w' => e = .returned (.bool (okEn x)) ∧ Below w.heap.size w w' := by
  have hs : x.what.size ≤ 9223372036854775807 := by unfold En.small at hsm; omega
  go_enter Try.func21, Try.ntmps21
  go_wp2_with (go_at_call 60; refine (l27Ok_any x _ _ hs (by go_simp) (by go_simp) (by go_simp)).mono ?_; rintro e w' ⟨rfl, rfl⟩)
  go_ret
  exact ⟨rfl, (Below.refl _ _).alloc (Nat.le_refl _) _⟩
theorem implValidEntry_any (x : En) (w : World) (hx : x.good) (hsm : x.small) :
    Calls Try.prog 23 #[.agg #[.int .i64 x.day, .string x.what, .int .i64 x.val]] w fun e w' => e = .returned (.bool (okEn x)) ∧ Below w.heap.size w w' := by
  have hs : x.what.size ≤ 9223372036854775807 := by unfold En.small at hsm; omega
  clear hsm hx
  by_cases h1 : inR x.day 0 100000 = true
  · by_cases h2 : isName x.what = true
    · by_cases h3 : inR x.val (-1000000) 1000000 = true
      · have HO := Lib.hid (show okEn x = true by simp [okEn, h1, h2, h3])
        go_enter Try.func23, Try.ntmps23
        go_wp2_with (first | (go_at_call 62; refine (implIsName_any _ _ hs).mono ?_; rintro e w' ⟨rfl, rfl⟩) | (go_at_call 61; refine (within_any _ _ _ _).mono ?_; rintro e w' ⟨rfl, rfl⟩))
        go_ret
        exact ⟨ret_bool HO.out.symm, (Below.refl _ _).alloc (Nat.le_refl _) _⟩
      · have h3 : inR x.val (-1000000) 1000000 = false := by simpa using h3
        have HO := Lib.hid (show okEn x = false by simp [okEn, h3])
        go_enter Try.func23, Try.ntmps23
        go_wp2_with (first | (go_at_call 62; refine (implIsName_any _ _ hs).mono ?_; rintro e w' ⟨rfl, rfl⟩) | (go_at_call 61; refine (within_any _ _ _ _).mono ?_; rintro e w' ⟨rfl, rfl⟩))
        go_ret
        exact ⟨ret_bool HO.out.symm, (Below.refl _ _).alloc (Nat.le_refl _) _⟩
    · have h2 : isName x.what = false := by simpa using h2
      have HO := Lib.hid (show okEn x = false by simp [okEn, h2])
      go_enter Try.func23, Try.ntmps23
      go_wp2_with (first | (go_at_call 62; refine (implIsName_any _ _ hs).mono ?_; rintro e w' ⟨rfl, rfl⟩) | (go_at_call 61; refine (within_any _ _ _ _).mono ?_; rintro e w' ⟨rfl, rfl⟩))
      go_ret
      exact ⟨ret_bool HO.out.symm, (Below.refl _ _).alloc (Nat.le_refl _) _⟩
  · have h1 : inR x.day 0 100000 = false := by simpa using h1
    have HO := Lib.hid (show okEn x = false by simp [okEn, h1])
    go_enter Try.func23, Try.ntmps23
    go_wp2_with (first | (go_at_call 62; refine (implIsName_any _ _ hs).mono ?_; rintro e w' ⟨rfl, rfl⟩) | (go_at_call 61; refine (within_any _ _ _ _).mono ?_; rintro e w' ⟨rfl, rfl⟩))
    go_ret
    exact ⟨ret_bool HO.out.symm, (Below.refl _ _).alloc (Nat.le_refl _) _⟩
end Go.Proofs.Ytpcdpmbmibimlaa
