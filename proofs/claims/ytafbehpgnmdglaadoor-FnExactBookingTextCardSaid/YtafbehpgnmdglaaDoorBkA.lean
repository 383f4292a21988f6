/- Bookings: the tests of one booking and of a list of bookings. -/
import Derived.Test.YtafbehpgnmdglaaDoorSBk
import Derived.Test.YtafbehpgnmdglaaDoorName
import Derived.Test.YtafbehpgnmdglaaDoorRng
import Derived.Deep.QuietTactic
import Derived.Deep.RegionWith
set_option linter.unusedVariables false
namespace Go.Proofs.YtafbehpgnmdglaaDoor
open Go.RowKit

def okBk (x : Bk) : Bool := inR x.day 0 20000 && isName x.client && inR x.amount (-1000000000) 1000000000 && decide (x.amount ≠ 0)
theorem okBk_iff {x : Bk} : okBk x = true ↔ (0 ≤ x.day ∧ x.day ≤ 20000) ∧ isName x.client = true ∧ (-1000000000 ≤ x.amount ∧ x.amount ≤ 1000000000) ∧ x.amount ≠ 0 := by
  simp only [okBk, Bool.and_eq_true, inR_true, decide_eq_true_eq]
  constructor
  · rintro ⟨⟨⟨a, b⟩, c⟩, d⟩; exact ⟨a, b, c, d⟩
  · rintro ⟨a, b, c, d⟩; exact ⟨⟨⟨a, b⟩, c⟩, d⟩
/-- Row i of a list: a booking that is right, and no earlier than the one ahead of it. -/
def rowBk (l : List Bk) (i : Nat) : Bool := match l[i]? with
  | none => false
  | some x => okBk x && (decide (i = 0) || (match l[i - 1]? with | none => false | some y => decide (y.day ≤ x.day)))
theorem rowBk_bad {l : List Bk} {i : Nat} {x : Bk} (h : l[i]? = some x) (hx : okBk x = false) : rowBk l i = false := by simp [rowBk, h, hx]
theorem rowBk_zero {l : List Bk} {x : Bk} (h : l[0]? = some x) (hx : okBk x = true) : rowBk l 0 = true := by simp [rowBk, h, hx]
theorem rowBk_ok {l : List Bk} {i : Nat} {x y : Bk} (h : l[i]? = some x) (hx : okBk x = true) (hy : l[i - 1]? = some y) (hd : y.day ≤ x.day) : rowBk l i = true := by simp [rowBk, h, hx, hy, hd]
theorem rowBk_late {l : List Bk} {i : Nat} {x y : Bk} (h : l[i]? = some x) (h0 : 0 < i) (hy : l[i - 1]? = some y) (hd : ¬ y.day ≤ x.day) : rowBk l i = false := by
  have : i ≠ 0 := by omega
  simp [rowBk, h, hy, hd, this]
def okBks (l : List Bk) : Bool := (List.range l.length).all (rowBk l) && decide (l.length ≤ 80)
theorem range_at {n k : Nat} (h : k < n) : (List.range n)[k]? = some k := by simp [h]

theorem validBooking_any (x : Bk) (w : World) (hs : x.client.size ≤ 9223372036854775807) :
    Calls Tryd.prog 64 #[.agg #[.int .i64 x.day, .string x.client, .int .i64 x.amount]] w fun e w' => e = .returned (.bool (okBk x)) ∧ Below w.heap.size w w' := by
  by_cases h1 : inR x.day 0 20000 = true
  · by_cases h2 : isName x.client = true
    · by_cases h3 : inR x.amount (-1000000000) 1000000000 = true
      · by_cases h4 : x.amount = 0
        · have h5 : (x.amount != 0) = false := by simp [h4]
          have HO := Lib.hid (show okBk x = false by simp [okBk, h4])
          clear h4
          go_enter Tryd.func64, Tryd.ntmps64
          go_wp2_with (first | (go_at_call 104; refine (isBookDay_any _ _).mono ?_; rintro e w' ⟨rfl, rfl⟩) | (go_at_call 95; refine (implIsName_any _ _ hs).mono ?_; rintro e w' ⟨rfl, rfl⟩) | (go_at_call 70; refine (within_any _ _ _ _).mono ?_; rintro e w' ⟨rfl, rfl⟩))
          go_ret
          exact ⟨ret_bool HO.out.symm, (Below.refl _ _).alloc (Nat.le_refl _) _⟩
        · have h5 : (x.amount != 0) = true := by rw [bne_iff_ne]; exact h4
          have HO := Lib.hid (show okBk x = true by simp [okBk, h1, h2, h3, h4])
          clear h4
          go_enter Tryd.func64, Tryd.ntmps64
          go_wp2_with (first | (go_at_call 104; refine (isBookDay_any _ _).mono ?_; rintro e w' ⟨rfl, rfl⟩) | (go_at_call 95; refine (implIsName_any _ _ hs).mono ?_; rintro e w' ⟨rfl, rfl⟩) | (go_at_call 70; refine (within_any _ _ _ _).mono ?_; rintro e w' ⟨rfl, rfl⟩))
          go_ret
          exact ⟨ret_bool HO.out.symm, (Below.refl _ _).alloc (Nat.le_refl _) _⟩
      · have h3 : inR x.amount (-1000000000) 1000000000 = false := by simpa using h3
        have HO := Lib.hid (show okBk x = false by simp [okBk, h3])
        go_enter Tryd.func64, Tryd.ntmps64
        go_wp2_with (first | (go_at_call 104; refine (isBookDay_any _ _).mono ?_; rintro e w' ⟨rfl, rfl⟩) | (go_at_call 95; refine (implIsName_any _ _ hs).mono ?_; rintro e w' ⟨rfl, rfl⟩) | (go_at_call 70; refine (within_any _ _ _ _).mono ?_; rintro e w' ⟨rfl, rfl⟩))
        go_ret
        exact ⟨ret_bool HO.out.symm, (Below.refl _ _).alloc (Nat.le_refl _) _⟩
    · have h2 : isName x.client = false := by simpa using h2
      have HO := Lib.hid (show okBk x = false by simp [okBk, h2])
      go_enter Tryd.func64, Tryd.ntmps64
      go_wp2_with (first | (go_at_call 104; refine (isBookDay_any _ _).mono ?_; rintro e w' ⟨rfl, rfl⟩) | (go_at_call 95; refine (implIsName_any _ _ hs).mono ?_; rintro e w' ⟨rfl, rfl⟩) | (go_at_call 70; refine (within_any _ _ _ _).mono ?_; rintro e w' ⟨rfl, rfl⟩))
      go_ret
      exact ⟨ret_bool HO.out.symm, (Below.refl _ _).alloc (Nat.le_refl _) _⟩
  · have h1 : inR x.day 0 20000 = false := by simpa using h1
    have HO := Lib.hid (show okBk x = false by simp [okBk, h1])
    go_enter Tryd.func64, Tryd.ntmps64
    go_wp2_with (first | (go_at_call 104; refine (isBookDay_any _ _).mono ?_; rintro e w' ⟨rfl, rfl⟩) | (go_at_call 95; refine (implIsName_any _ _ hs).mono ?_; rintro e w' ⟨rfl, rfl⟩) | (go_at_call 70; refine (within_any _ _ _ _).mono ?_; rintro e w' ⟨rfl, rfl⟩))
    go_ret
    exact ⟨ret_bool HO.out.symm, (Below.refl _ _).alloc (Nat.le_refl _) _⟩

theorem l25One_any (x : Bk) (b off : Nat) (w : World) (hs : x.client.size ≤ 9223372036854775807) (c0 : w.cell? ⟨b, off, none⟩ = some (.int .i64 x.day)) (c1 : w.cell? ⟨b, off + 1, none⟩ = some (.string x.client)) (c2 : w.cell? ⟨b, off + 2, none⟩ = some (.int .i64 x.amount)) :
    Calls Tryd.prog 61 #[.pointer (some ⟨b, off, none⟩)] w fun e w' => e = .returned (.bool (okBk x)) ∧ w = w' := by
  by_cases h1 : inR x.day 0 20000 = true
  · by_cases h2 : isName x.client = true
    · by_cases h3 : inR x.amount (-1000000000) 1000000000 = true
      · by_cases h4 : x.amount = 0
        · have h5 : (x.amount != 0) = false := by simp [h4]
          have HO := Lib.hid (show okBk x = false by simp [okBk, h4])
          clear h4
          go_enter Tryd.func61, Tryd.ntmps61
          go_wp2_with (first | (go_at_call 103; refine (l25Day_any _ _).mono ?_; rintro e w' ⟨rfl, rfl⟩) | (go_at_call 101; refine (specIsName_any _ _ hs).mono ?_; rintro e w' ⟨rfl, rfl⟩) | (go_at_call 66; refine (l00In_any _ _ _ _).mono ?_; rintro e w' ⟨rfl, rfl⟩))
          go_ret
          exact ⟨ret_bool HO.out.symm, rfl⟩
        · have h5 : (x.amount != 0) = true := by rw [bne_iff_ne]; exact h4
          have HO := Lib.hid (show okBk x = true by simp [okBk, h1, h2, h3, h4])
          clear h4
          go_enter Tryd.func61, Tryd.ntmps61
          go_wp2_with (first | (go_at_call 103; refine (l25Day_any _ _).mono ?_; rintro e w' ⟨rfl, rfl⟩) | (go_at_call 101; refine (specIsName_any _ _ hs).mono ?_; rintro e w' ⟨rfl, rfl⟩) | (go_at_call 66; refine (l00In_any _ _ _ _).mono ?_; rintro e w' ⟨rfl, rfl⟩))
          go_ret
          exact ⟨ret_bool HO.out.symm, rfl⟩
      · have h3 : inR x.amount (-1000000000) 1000000000 = false := by simpa using h3
        have HO := Lib.hid (show okBk x = false by simp [okBk, h3])
        go_enter Tryd.func61, Tryd.ntmps61
        go_wp2_with (first | (go_at_call 103; refine (l25Day_any _ _).mono ?_; rintro e w' ⟨rfl, rfl⟩) | (go_at_call 101; refine (specIsName_any _ _ hs).mono ?_; rintro e w' ⟨rfl, rfl⟩) | (go_at_call 66; refine (l00In_any _ _ _ _).mono ?_; rintro e w' ⟨rfl, rfl⟩))
        go_ret
        exact ⟨ret_bool HO.out.symm, rfl⟩
    · have h2 : isName x.client = false := by simpa using h2
      have HO := Lib.hid (show okBk x = false by simp [okBk, h2])
      go_enter Tryd.func61, Tryd.ntmps61
      go_wp2_with (first | (go_at_call 103; refine (l25Day_any _ _).mono ?_; rintro e w' ⟨rfl, rfl⟩) | (go_at_call 101; refine (specIsName_any _ _ hs).mono ?_; rintro e w' ⟨rfl, rfl⟩) | (go_at_call 66; refine (l00In_any _ _ _ _).mono ?_; rintro e w' ⟨rfl, rfl⟩))
      go_ret
      exact ⟨ret_bool HO.out.symm, rfl⟩
  · have h1 : inR x.day 0 20000 = false := by simpa using h1
    have HO := Lib.hid (show okBk x = false by simp [okBk, h1])
    go_enter Tryd.func61, Tryd.ntmps61
    go_wp2_with (first | (go_at_call 103; refine (l25Day_any _ _).mono ?_; rintro e w' ⟨rfl, rfl⟩) | (go_at_call 101; refine (specIsName_any _ _ hs).mono ?_; rintro e w' ⟨rfl, rfl⟩) | (go_at_call 66; refine (l00In_any _ _ _ _).mono ?_; rintro e w' ⟨rfl, rfl⟩))
    go_ret
    exact ⟨ret_bool HO.out.symm, rfl⟩

end Go.Proofs.YtafbehpgnmdglaaDoor
