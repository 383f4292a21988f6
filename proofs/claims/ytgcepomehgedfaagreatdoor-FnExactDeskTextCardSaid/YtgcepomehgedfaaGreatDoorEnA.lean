/- One entry: the tests of it. -/
import Derived.Test.YtgcepomehgedfaaGreatDoorSEn
import Derived.Test.YtgcepomehgedfaaGreatDoorName
import Derived.Test.YtgcepomehgedfaaGreatDoorRng
set_option linter.unusedVariables false
namespace Go.Proofs.YtgcepomehgedfaaGreatDoor
open Go.RowKit

def okEn (x : En) : Bool := inR x.day 0 100000 && isName x.what && inR x.val (-1000000) 1000000
theorem l27Ok_any (x : En) (b : Nat) (w : World) (hs : x.what.size ≤ 9223372036854775807) (c0 : w.cell? ⟨b, 0, none⟩ = some (.int .i64 x.day)) (c1 : w.cell? ⟨b, 1, none⟩ = some (.string x.what)) (c2 : w.cell? ⟨b, 2, none⟩ = some (.int .i64 x.val)) :
    Calls Tryz.prog 66 #[.pointer (some ⟨b, 0, none⟩)] w fun e w' => e = .returned (.bool (okEn x)) ∧ w = w' := by
  by_cases h1 : inR x.day 0 100000 = true
  · by_cases h2 : isName x.what = true
    · by_cases h3 : inR x.val (-1000000) 1000000 = true
      · have HO := Lib.hid (show okEn x = true by simp [okEn, h1, h2, h3])
        go_enter Tryz.func66, Tryz.ntmps66
        go_wp2_with (first | (go_at_call 82; refine (l27Day_any _ _).mono ?_; rintro e w' ⟨rfl, rfl⟩) | (go_at_call 83; refine (specIsName_any _ _ hs).mono ?_; rintro e w' ⟨rfl, rfl⟩) | (go_at_call 37; refine (l00In_any _ _ _ _).mono ?_; rintro e w' ⟨rfl, rfl⟩))
        go_ret
        exact ⟨ret_bool HO.out.symm, rfl⟩
      · have h3 : inR x.val (-1000000) 1000000 = false := by simpa using h3
        have HO := Lib.hid (show okEn x = false by simp [okEn, h3])
        go_enter Tryz.func66, Tryz.ntmps66
        go_wp2_with (first | (go_at_call 82; refine (l27Day_any _ _).mono ?_; rintro e w' ⟨rfl, rfl⟩) | (go_at_call 83; refine (specIsName_any _ _ hs).mono ?_; rintro e w' ⟨rfl, rfl⟩) | (go_at_call 37; refine (l00In_any _ _ _ _).mono ?_; rintro e w' ⟨rfl, rfl⟩))
        go_ret
        exact ⟨ret_bool HO.out.symm, rfl⟩
    · have h2 : isName x.what = false := by simpa using h2
      have HO := Lib.hid (show okEn x = false by simp [okEn, h2])
      go_enter Tryz.func66, Tryz.ntmps66
      go_wp2_with (first | (go_at_call 82; refine (l27Day_any _ _).mono ?_; rintro e w' ⟨rfl, rfl⟩) | (go_at_call 83; refine (specIsName_any _ _ hs).mono ?_; rintro e w' ⟨rfl, rfl⟩) | (go_at_call 37; refine (l00In_any _ _ _ _).mono ?_; rintro e w' ⟨rfl, rfl⟩))
      go_ret
      exact ⟨ret_bool HO.out.symm, rfl⟩
  · have h1 : inR x.day 0 100000 = false := by simpa using h1
    have HO := Lib.hid (show okEn x = false by simp [okEn, h1])
    go_enter Tryz.func66, Tryz.ntmps66
    go_wp2_with (first | (go_at_call 82; refine (l27Day_any _ _).mono ?_; rintro e w' ⟨rfl, rfl⟩) | (go_at_call 83; refine (specIsName_any _ _ hs).mono ?_; rintro e w' ⟨rfl, rfl⟩) | (go_at_call 37; refine (l00In_any _ _ _ _).mono ?_; rintro e w' ⟨rfl, rfl⟩))
    go_ret
    exact ⟨ret_bool HO.out.symm, rfl⟩
theorem implValidEntry_any (x : En) (w : World) (hx : x.good) (hsm : x.small) :
    Calls Tryz.prog 88 #[.agg #[.int .i64 x.day, .string x.what, .int .i64 x.val]] w fun e w' => e = .returned (.bool (okEn x)) ∧ Below w.heap.size w w' := by
  have hs : x.what.size ≤ 9223372036854775807 := by unfold En.small at hsm; omega
  clear hsm hx
  by_cases h1 : inR x.day 0 100000 = true
  · by_cases h2 : isName x.what = true
    · by_cases h3 : inR x.val (-1000000) 1000000 = true
      · have HO := Lib.hid (show okEn x = true by simp [okEn, h1, h2, h3])
        go_enter Tryz.func88, Tryz.ntmps88
        go_wp2_with (first | (go_at_call 97; refine (implIsName_any _ _ hs).mono ?_; rintro e w' ⟨rfl, rfl⟩) | (go_at_call 43; refine (within_any _ _ _ _).mono ?_; rintro e w' ⟨rfl, rfl⟩))
        go_ret
        exact ⟨ret_bool HO.out.symm, (Below.refl _ _).alloc (Nat.le_refl _) _⟩
      · have h3 : inR x.val (-1000000) 1000000 = false := by simpa using h3
        have HO := Lib.hid (show okEn x = false by simp [okEn, h3])
        go_enter Tryz.func88, Tryz.ntmps88
        go_wp2_with (first | (go_at_call 97; refine (implIsName_any _ _ hs).mono ?_; rintro e w' ⟨rfl, rfl⟩) | (go_at_call 43; refine (within_any _ _ _ _).mono ?_; rintro e w' ⟨rfl, rfl⟩))
        go_ret
        exact ⟨ret_bool HO.out.symm, (Below.refl _ _).alloc (Nat.le_refl _) _⟩
    · have h2 : isName x.what = false := by simpa using h2
      have HO := Lib.hid (show okEn x = false by simp [okEn, h2])
      go_enter Tryz.func88, Tryz.ntmps88
      go_wp2_with (first | (go_at_call 97; refine (implIsName_any _ _ hs).mono ?_; rintro e w' ⟨rfl, rfl⟩) | (go_at_call 43; refine (within_any _ _ _ _).mono ?_; rintro e w' ⟨rfl, rfl⟩))
      go_ret
      exact ⟨ret_bool HO.out.symm, (Below.refl _ _).alloc (Nat.le_refl _) _⟩
  · have h1 : inR x.day 0 100000 = false := by simpa using h1
    have HO := Lib.hid (show okEn x = false by simp [okEn, h1])
    go_enter Tryz.func88, Tryz.ntmps88
    go_wp2_with (first | (go_at_call 97; refine (implIsName_any _ _ hs).mono ?_; rintro e w' ⟨rfl, rfl⟩) | (go_at_call 43; refine (within_any _ _ _ _).mono ?_; rintro e w' ⟨rfl, rfl⟩))
    go_ret
    exact ⟨ret_bool HO.out.symm, (Below.refl _ _).alloc (Nat.le_refl _) _⟩
end Go.Proofs.YtgcepomehgedfaaGreatDoor
