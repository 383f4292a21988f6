/- Bookings: the tests of one booking and of a list of bookings. -/
import Derived.Test.YtnlghcpidlpfkaaSBk
import Derived.Test.YtnlghcpidlpfkaaName
import Derived.Test.YtnlghcpidlpfkaaRng
import Derived.Deep.QuietTactic
import Derived.Deep.RegionWith
set_option linter.unusedVariables false
namespace Go.Proofs.Ytnlghcpidlpfkaa
open Go.RowKit

def okBk (x : Bk) : Bool := inR x.day 0 20000 && isName x.client && inR x.amount (-1000000000) 1000000000 && decide (x.amount ≠ 0)
theorem okBk_iff {x : Bk} : okBk x = true ↔ (0 ≤ x.day ∧ x.day ≤ 20000) ∧ isName x.client = true ∧ (-1000000000 ≤ x.amount ∧ x.amount ≤ 1000000000) ∧ x.amount ≠ 0 := by
  simp only [okBk, Bool.and_eq_true, inR_true, decide_eq_true_eq]
  constructor
  · rintro ⟨⟨⟨a, b⟩, c⟩, d⟩; exact ⟨a, b, c, d⟩
  · rintro ⟨a, b, c, d⟩; exact ⟨⟨⟨a, b⟩, c⟩, d⟩
/-- Row i of a list: a booking that is right, and no earlier than the one ahead of it. -/
def rowBk (l : List Bk) (i : Nat) : Bool := match l[i]? with
  | none => false
  | some x => okBk x && (decide (i = 0) || (match l[i - 1]? with | none => false | some y => decide (y.day ≤ x.day)))
theorem rowBk_bad {l : List Bk} {i : Nat} {x : Bk} (h : l[i]? = some x) (hx : okBk x = false) : rowBk l i = false := by simp [rowBk, h, hx]
theorem rowBk_zero {l : List Bk} {x : Bk} (h : l[0]? = some x) (hx : okBk x = true) : rowBk l 0 = true := by simp [rowBk, h, hx]
theorem rowBk_ok {l : List Bk} {i : Nat} {x y : Bk} (h : l[i]? = some x) (hx : okBk x = true) (hy : l[i - 1]? = some y) (hd : y.day ≤ x.day) : rowBk l i = true := by simp [rowBk, h, hx, hy, hd]
theorem rowBk_late {l : List Bk} {i : Nat} {x y : Bk} (h : l[i]? = some x) (h0 : 0 < i) (hy : l[i - 1]? = some y) (hd : ¬ y.day ≤ x.day) : rowBk l i = false := by
  have : i ≠ 0 := by omega
  simp [rowBk, h, hy, hd, this]
def okBks (l : List Bk) : Bool := (List.range l.length).all (rowBk l) && decide (l.length ≤ 80)
theorem range_at {n k : Nat} (h : k < n) : (List.range n)[k]? = some k := by simp [h]

theorem validBooking_any (x : Bk) (w : World) (hs : x.client.size ≤ 9223372036854775807) :
    Calls Try.prog 110 #[.agg #[.int .i64 x.day, .string x.client, .int .i64 x.amount]] w fun e w' => e = .returned (.bool (okBk x)) ∧ Below w.heap.size w w' := by
  by_cases h1 : inR x.day 0 20000 = true
  · by_cases h2 : isName x.client = true
    · by_cases h3 : inR x.amount (-1000000000) 1000000000 = true
      · by_cases h4 : x.amount = 0
        · have h5 : (x.amount != 0) = false := by simp [h4]
          have HO := Lib.hid (show okBk x = false by simp [okBk, h4])
          clear h4
          go_enter Try.func110, Try.ntmps110
          go_wp2_with (first | (go_at_call 192; refine (isBookDay_any _ _).mono ?_; rintro e w' ⟨rfl, rfl⟩) | (go_at_call 186; refine (implIsName_any _ _ hs).mono ?_; rintro e w' ⟨rfl, rfl⟩) | (go_at_call 157; refine (within_any _ _ _ _).mono ?_; rintro e w' ⟨rfl, rfl⟩))
          go_ret
          exact ⟨ret_bool HO.out.symm, (Below.refl _ _).alloc (Nat.le_refl _) _⟩
        · have h5 : (x.amount != 0) = true := by rw [bne_iff_ne]; exact h4
          have HO := Lib.hid (show okBk x = true by simp [okBk, h1, h2, h3, h4])
          clear h4
          go_enter Try.func110, Try.ntmps110
          go_wp2_with (first | (go_at_call 192; refine (isBookDay_any _ _).mono ?_; rintro e w' ⟨rfl, rfl⟩) | (go_at_call 186; refine (implIsName_any _ _ hs).mono ?_; rintro e w' ⟨rfl, rfl⟩) | (go_at_call 157; refine (within_any _ _ _ _).mono ?_; rintro e w' ⟨rfl, rfl⟩))
          go_ret
          exact ⟨ret_bool HO.out.symm, (Below.refl _ _).alloc (Nat.le_refl _) _⟩
      · have h3 : inR x.amount (-1000000000) 1000000000 = false := by simpa using h3
        have HO := Lib.hid (show okBk x = false by simp [okBk, h3])
        go_enter Try.func110, Try.ntmps110
        go_wp2_with (first | (go_at_call 192; refine (isBookDay_any _ _).mono ?_; rintro e w' ⟨rfl, rfl⟩) | (go_at_call 186; refine (implIsName_any _ _ hs).mono ?_; rintro e w' ⟨rfl, rfl⟩) | (go_at_call 157; refine (within_any _ _ _ _).mono ?_; rintro e w' ⟨rfl, rfl⟩))
        go_ret
        exact ⟨ret_bool HO.out.symm, (Below.refl _ _).alloc (Nat.le_refl _) _⟩
    · have h2 : isName x.client = false := by simpa using h2
      have HO := Lib.hid (show okBk x = false by simp [okBk, h2])
      go_enter Try.func110, Try.ntmps110
      go_wp2_with (first | (go_at_call 192; refine (isBookDay_any _ _).mono ?_; rintro e w' ⟨rfl, rfl⟩) | (go_at_call 186; refine (implIsName_any _ _ hs).mono ?_; rintro e w' ⟨rfl, rfl⟩) | (go_at_call 157; refine (within_any _ _ _ _).mono ?_; rintro e w' ⟨rfl, rfl⟩))
      go_ret
      exact ⟨ret_bool HO.out.symm, (Below.refl _ _).alloc (Nat.le_refl _) _⟩
  · have h1 : inR x.day 0 20000 = false := by simpa using h1
    have HO := Lib.hid (show okBk x = false by simp [okBk, h1])
    go_enter Try.func110, Try.ntmps110
    go_wp2_with (first | (go_at_call 192; refine (isBookDay_any _ _).mono ?_; rintro e w' ⟨rfl, rfl⟩) | (go_at_call 186; refine (implIsName_any _ _ hs).mono ?_; rintro e w' ⟨rfl, rfl⟩) | (go_at_call 157; refine (within_any _ _ _ _).mono ?_; rintro e w' ⟨rfl, rfl⟩))
    go_ret
    exact ⟨ret_bool HO.out.symm, (Below.refl _ _).alloc (Nat.le_refl _) _⟩

theorem l25One_any (x : Bk) (b off : Nat) (w : World) (hs : x.client.size ≤ 9223372036854775807) (c0 : w.cell? ⟨b, off, none⟩ = some (.int .i64 x.day)) (c1 : w.cell? ⟨b, off + 1, none⟩ = some (.string x.client)) (c2 : w.cell? ⟨b, off + 2, none⟩ = some (.int .i64 x.amount)) :
    Calls Try.prog 108 #[.pointer (some ⟨b, off, none⟩)] w fun e w' => e = .returned (.bool (okBk x)) ∧ w = w' := by
  by_cases h1 : inR x.day 0 20000 = true
  · by_cases h2 : isName x.client = true
    · by_cases h3 : inR x.amount (-1000000000) 1000000000 = true
      · by_cases h4 : x.amount = 0
        · have h5 : (x.amount != 0) = false := by simp [h4]
          have HO := Lib.hid (show okBk x = false by simp [okBk, h4])
          clear h4
          go_enter Try.func108, Try.ntmps108
          go_wp2_with (first | (go_at_call 139; refine (l25Day_any _ _).mono ?_; rintro e w' ⟨rfl, rfl⟩) | (go_at_call 185; refine (specIsName_any _ _ hs).mono ?_; rintro e w' ⟨rfl, rfl⟩) | (go_at_call 159; refine (l00In_any _ _ _ _).mono ?_; rintro e w' ⟨rfl, rfl⟩))
          go_ret
          exact ⟨ret_bool HO.out.symm, rfl⟩
        · have h5 : (x.amount != 0) = true := by rw [bne_iff_ne]; exact h4
          have HO := Lib.hid (show okBk x = true by simp [okBk, h1, h2, h3, h4])
          clear h4
          go_enter Try.func108, Try.ntmps108
          go_wp2_with (first | (go_at_call 139; refine (l25Day_any _ _).mono ?_; rintro e w' ⟨rfl, rfl⟩) | (go_at_call 185; refine (specIsName_any _ _ hs).mono ?_; rintro e w' ⟨rfl, rfl⟩) | (go_at_call 159; refine (l00In_any _ _ _ _).mono ?_; rintro e w' ⟨rfl, rfl⟩))
          go_ret
          exact ⟨ret_bool HO.out.symm, rfl⟩
      · have h3 : inR x.amount (-1000000000) 1000000000 = false := by simpa using h3
        have HO := Lib.hid (show okBk x = false by simp [okBk, h3])
        go_enter Try.func108, Try.ntmps108
        go_wp2_with (first | (go_at_call 139; refine (l25Day_any _ _).mono ?_; rintro e w' ⟨rfl, rfl⟩) | (go_at_call 185; refine (specIsName_any _ _ hs).mono ?_; rintro e w' ⟨rfl, rfl⟩) | (go_at_call 159; refine (l00In_any _ _ _ _).mono ?_; rintro e w' ⟨rfl, rfl⟩))
        go_ret
        exact ⟨ret_bool HO.out.symm, rfl⟩
    · have h2 : isName x.client = false := by simpa using h2
      have HO := Lib.hid (show okBk x = false by simp [okBk, h2])
      go_enter Try.func108, Try.ntmps108
      go_wp2_with (first | (go_at_call 139; refine (l25Day_any _ _).mono ?_; rintro e w' ⟨rfl, rfl⟩) | (go_at_call 185; refine (specIsName_any _ _ hs).mono ?_; rintro e w' ⟨rfl, rfl⟩) | (go_at_call 159; refine (l00In_any _ _ _ _).mono ?_; rintro e w' ⟨rfl, rfl⟩))
      go_ret
      exact ⟨ret_bool HO.out.symm, rfl⟩
  · have h1 : inR x.day 0 20000 = false := by simpa using h1
    have HO := Lib.hid (show okBk x = false by simp [okBk, h1])
    go_enter Try.func108, Try.ntmps108
    go_wp2_with (first | (go_at_call 139; refine (l25Day_any _ _).mono ?_; rintro e w' ⟨rfl, rfl⟩) | (go_at_call 185; refine (specIsName_any _ _ hs).mono ?_; rintro e w' ⟨rfl, rfl⟩) | (go_at_call 159; refine (l00In_any _ _ _ _).mono ?_; rintro e w' ⟨rfl, rfl⟩))
    go_ret
    exact ⟨ret_bool HO.out.symm, rfl⟩

theorem l25Ok_any (A : Option Addr) (n c B : Nat) (l : List Bk) (w : World) (h : Reads w B 3 A n (bks l)) (hn : n ≤ 1048576) (hB : B ≤ w.heap.size) (hsm : ∀ x ∈ l, x.small) :
    Calls Try.prog 107 #[.slice A n c] w fun e w' => e = .returned (.bool (okBks l)) ∧ Below w.heap.size w w' := by
  have hl := Lib.hid (bks_len h)
  have HSM := Lib.hid hsm
  clear hsm
  go_enter Try.func107, Try.ntmps107
  go_wp2
  go_loopw [3] (fun i wr => ∃ k : Nat, k ≤ n ∧ i = .int .i64 k ∧ AllTo (rowBk l) (List.range n) k ∧ Below w.heap.size w wr) (fun i _ => n - (intOf i).toNat)
  case atStart => exact ⟨0, Nat.zero_le _, rfl, AllTo.zero _ _, Below.refl _ _⟩
  case round =>
    obtain ⟨k, hk, rfl, hall, hbel⟩ := hrel
    have HA := Lib.hid hall
    have HBe := Lib.hid hbel
    clear hall
    by_cases hlt : k < n
    · obtain ⟨x, b, off, he, rfl, hb, c0, c1, c2⟩ := bk_at (h.on hB hbel) hlt
      have hs : x.client.size ≤ 9223372036854775807 := by have := HSM.out x (List.mem_of_getElem? he); unfold Bk.small at this; omega
      have hone : ∀ W, (∃ m, W = wr.drewN m) → Calls Try.prog 108 #[.pointer (some ⟨b, off + k * 3, none⟩)] W fun e w' => e = .returned (.bool (okBk x)) ∧ W = w' := fun W ⟨m, hW⟩ => by subst hW; exact l25One_any x b _ _ hs c0 c1 c2
      have HOne := Lib.hid hone
      have HE := Lib.hid he
      have hi0 : (0 : Int) ≤ k := by omega
      have hi1 : (k : Int) < n := by omega
      by_cases hx : okBk x = true
      · by_cases hk0 : k = 0
        · subst hk0
          have HR := Lib.hid (rowBk_zero HE.out hx)
          clear he hone h hbel c1 c2 HE
          have hg0 : decide ((0 : Int) < ((0 : Nat) : Int)) = false := by decide
          go_wp2_with fail
          go_quiet ((go_at_call 108; exact Calls.quiet_of_same ((HOne.out _ ⟨_, rfl⟩).mono fun _ _ hh => ⟨hh.1, hh.2.symm⟩)))
          go_wp2
          go_roundw
          case rel => exact ⟨1, by omega, by go_num, HA.out.step (range_at hlt) HR.out, below_drewN HBe.out _⟩
          case measure => simp [intOf]; omega
        · obtain ⟨j, rfl⟩ : ∃ j, k = j + 1 := ⟨k - 1, by omega⟩
          obtain ⟨y, b', off', hy, e2, hb', d0, d1, d2⟩ := bk_at (k := j) (h.on hB hbel) (by omega)
          injection e2 with e2; injection e2 with e2 e2'; subst e2; subst e2'
          have hj0 : (0 : Int) ≤ j := by omega
          have hj1 : (j : Int) < n := by omega
          have hj2 : (j : Int) + 1 < n := by omega
          have hg0 : decide ((0 : Int) < (j : Int) + 1) = true := decide_eq_true (by omega)
          by_cases hd : y.day ≤ x.day
          · have HR := Lib.hid (rowBk_ok HE.out hx (by simpa using hy) hd)
            clear he hone h hbel c1 c2 d1 d2 hy hk0 HE
            go_wp2_with fail
            go_quiet ((go_at_call 108; exact Calls.quiet_of_same ((HOne.out _ ⟨_, rfl⟩).mono fun _ _ hh => ⟨hh.1, hh.2.symm⟩)))
            go_wp2
            go_roundw
            case rel => exact ⟨j + 1 + 1, by omega, by go_num, HA.out.step (range_at hlt) HR.out, below_drewN HBe.out _⟩
            case measure => simp [intOf]; omega
          · have HO := Lib.hid (show okBks l = false by simp only [okBks, all_bad (range_at (show j + 1 < l.length by have := hl.out; omega)) (rowBk_late HE.out (by omega) (by simpa using hy) hd), Bool.false_and])
            have hd : x.day < y.day := by omega
            clear he hone h hbel c1 c2 d1 d2 hy hk0 HE
            go_wp2_with fail
            go_quiet ((go_at_call 108; exact Calls.quiet_of_same ((HOne.out _ ⟨_, rfl⟩).mono fun _ _ hh => ⟨hh.1, hh.2.symm⟩)))
            go_wp2
            go_ret
            exact ⟨ret_bool HO.out.symm, below_drewN HBe.out _⟩
      · have hx : okBk x = false := by simpa using hx
        have HO := Lib.hid (show okBks l = false by simp only [okBks, all_bad (range_at (show k < l.length by have := hl.out; omega)) (rowBk_bad HE.out hx), Bool.false_and])
        clear he hone h hbel c0 c1 c2 HE
        go_wp2_with fail
        go_quiet ((go_at_call 108; exact Calls.quiet_of_same ((HOne.out _ ⟨_, rfl⟩).mono fun _ _ hh => ⟨hh.1, hh.2.symm⟩)))
        go_wp2
        go_ret
        exact ⟨ret_bool HO.out.symm, below_drewN HBe.out _⟩
    · obtain rfl : k = n := by omega
      have HO := Lib.hid (show okBks l = decide (k ≤ 80) by simp only [okBks, hl.out, HA.out.done (by simp)]; simp)
      go_wp2
      go_ret
      exact ⟨ret_bool (by rw [HO.out]; simp; omega), hbel⟩

end Go.Proofs.Ytnlghcpidlpfkaa
