/- Bookings: the codes of what is asked. -/
import Derived.Test.YtnlghcpidlpfkaaBkF
set_option linter.unusedVariables false
namespace Go.Proofs.Ytnlghcpidlpfkaa
open Go.RowKit

/-- The code of what is asked of a list: 1 the list, 2 the name or a day, 0 right. -/
def codeI (l : List Bk) (s : ByteArray) (d e : Int) : Int := if okBks l = true then (if (isName s && (inR d 0 20000 && inR e d 20000)) = true then 0 else 2) else 1
def codeS (l : List Bk) (s : ByteArray) (d : Int) : Int := if okBks l = true then (if (isName s && inR d 0 20000) = true then 0 else 2) else 1
theorem codeI_self (l : List Bk) (s : ByteArray) (d : Int) : codeI l s d d = codeS l s d := by
  have : (inR d 0 20000 && inR d d 20000) = inR d 0 20000 := by
    rcases h : inR d 0 20000 with _ | _
    · rfl
    · have := inR_true.1 h
      simp only [Bool.true_and]
      exact inR_true.2 (by omega)
  simp only [codeI, codeS, this]
theorem codeS_zero {l : List Bk} {s : ByteArray} {d : Int} (h : codeS l s d = 0) : okBks l = true ∧ isName s = true ∧ 0 ≤ d ∧ d ≤ 20000 := by
  unfold codeS at h
  split at h
  · rename_i h1
    split at h
    · rename_i h2
      simp only [Bool.and_eq_true] at h2
      exact ⟨h1, h2.1, (inR_true.1 h2.2).1, (inR_true.1 h2.2).2⟩
    · cases h
  · cases h
theorem codeI_zero {l : List Bk} {s : ByteArray} {d e : Int} (h : codeI l s d e = 0) : okBks l = true ∧ isName s = true ∧ (0 ≤ d ∧ d ≤ 20000) ∧ d ≤ e ∧ e ≤ 20000 := by
  unfold codeI at h
  split at h
  · rename_i h1
    split at h
    · rename_i h2
      simp only [Bool.and_eq_true] at h2
      exact ⟨h1, h2.1, inR_true.1 h2.2.1, inR_true.1 h2.2.2⟩
    · cases h
  · cases h

theorem l25Code_any (A : Option Addr) (n c : Nat) (l : List Bk) (s : ByteArray) (d : Int) (B : Nat) (w : World) (h : Reads w B 3 A n (bks l)) (hB : B ≤ w.heap.size) (hn : n ≤ 1048576) (hsm : ∀ x ∈ l, x.small) (hs : s.size ≤ 9223372036854775807) :
    Calls Try.prog 183 #[.slice A n c, .string s, .int .i64 d] w fun e w' => e = .returned (.int .i64 (codeS l s d)) ∧ Below w.heap.size w w' := by
  rcases h1 : okBks l with _ | _
  · have HO := Lib.hid (show codeS l s d = 1 by simp [codeS, h1])
    go_enter Try.func183, Try.ntmps183
    go_wp2_with (first | (go_at_call 107; refine (l25Ok_any A n c B l _ h hn hB hsm).mono ?_; rintro e w1 ⟨rfl, b1⟩) | (go_at_call 185; refine (specIsName_any _ _ hs).mono ?_; rintro e w2 ⟨rfl, rfl⟩) | (go_at_call 139; refine (l25Day_any _ _).mono ?_; rintro e w2 ⟨rfl, rfl⟩) | (go_at_call 159; refine (l00In_any _ _ _ _).mono ?_; rintro e w2 ⟨rfl, rfl⟩))
    go_ret
    exact ⟨ret_int HO.out.symm, b1⟩
  · rcases h2 : isName s with _ | _
    · have HO := Lib.hid (show codeS l s d = 2 by simp [codeS, h1, h2])
      go_enter Try.func183, Try.ntmps183
      go_wp2_with (first | (go_at_call 107; refine (l25Ok_any A n c B l _ h hn hB hsm).mono ?_; rintro e w1 ⟨rfl, b1⟩) | (go_at_call 185; refine (specIsName_any _ _ hs).mono ?_; rintro e w2 ⟨rfl, rfl⟩) | (go_at_call 139; refine (l25Day_any _ _).mono ?_; rintro e w2 ⟨rfl, rfl⟩) | (go_at_call 159; refine (l00In_any _ _ _ _).mono ?_; rintro e w2 ⟨rfl, rfl⟩))
      go_ret
      exact ⟨ret_int HO.out.symm, b1⟩
    · rcases h3 : inR d 0 20000 with _ | _
      · have HO := Lib.hid (show codeS l s d = 2 by simp [codeS, h1, h2, h3])
        go_enter Try.func183, Try.ntmps183
        go_wp2_with (first | (go_at_call 107; refine (l25Ok_any A n c B l _ h hn hB hsm).mono ?_; rintro e w1 ⟨rfl, b1⟩) | (go_at_call 185; refine (specIsName_any _ _ hs).mono ?_; rintro e w2 ⟨rfl, rfl⟩) | (go_at_call 139; refine (l25Day_any _ _).mono ?_; rintro e w2 ⟨rfl, rfl⟩) | (go_at_call 159; refine (l00In_any _ _ _ _).mono ?_; rintro e w2 ⟨rfl, rfl⟩))
        go_ret
        exact ⟨ret_int HO.out.symm, b1⟩
      · have HO := Lib.hid (show codeS l s d = 0 by simp [codeS, h1, h2, h3])
        go_enter Try.func183, Try.ntmps183
        go_wp2_with (first | (go_at_call 107; refine (l25Ok_any A n c B l _ h hn hB hsm).mono ?_; rintro e w1 ⟨rfl, b1⟩) | (go_at_call 185; refine (specIsName_any _ _ hs).mono ?_; rintro e w2 ⟨rfl, rfl⟩) | (go_at_call 139; refine (l25Day_any _ _).mono ?_; rintro e w2 ⟨rfl, rfl⟩) | (go_at_call 159; refine (l00In_any _ _ _ _).mono ?_; rintro e w2 ⟨rfl, rfl⟩))
        go_ret
        exact ⟨ret_int HO.out.symm, b1⟩

theorem bookingsCode_any (A : Option Addr) (n c : Nat) (l : List Bk) (s : ByteArray) (d d2 : Int) (B : Nat) (w : World) (h : Reads w B 3 A n (bks l)) (hB : B ≤ w.heap.size) (hn : n ≤ 1048576) (hsm : ∀ x ∈ l, x.small) (hs : s.size ≤ 9223372036854775807) :
    Calls Try.prog 141 #[.slice A n c, .string s, .int .i64 d, .int .i64 d2] w fun e w' => e = .returned (.int .i64 (codeI l s d d2)) ∧ Below w.heap.size w w' := by
  rcases h1 : okBks l with _ | _
  · have HO := Lib.hid (show codeI l s d d2 = 1 by simp [codeI, h1])
    go_enter Try.func141, Try.ntmps141
    go_wp2_with (first | (go_at_call 109; refine (implValidBookings_any A n c l B _ h hB hn hsm).mono ?_; rintro e w1 ⟨rfl, b1⟩) | (go_at_call 186; refine (implIsName_any _ _ hs).mono ?_; rintro e w2 ⟨rfl, rfl⟩) | (go_at_call 192; refine (isBookDay_any _ _).mono ?_; rintro e w2 ⟨rfl, rfl⟩) | (go_at_call 157; refine (within_any _ _ _ _).mono ?_; rintro e w2 ⟨rfl, rfl⟩))
    go_ret
    exact ⟨ret_int HO.out.symm, b1⟩
  · rcases h2 : isName s with _ | _
    · have HO := Lib.hid (show codeI l s d d2 = 2 by simp [codeI, h1, h2])
      go_enter Try.func141, Try.ntmps141
      go_wp2_with (first | (go_at_call 109; refine (implValidBookings_any A n c l B _ h hB hn hsm).mono ?_; rintro e w1 ⟨rfl, b1⟩) | (go_at_call 186; refine (implIsName_any _ _ hs).mono ?_; rintro e w2 ⟨rfl, rfl⟩) | (go_at_call 192; refine (isBookDay_any _ _).mono ?_; rintro e w2 ⟨rfl, rfl⟩) | (go_at_call 157; refine (within_any _ _ _ _).mono ?_; rintro e w2 ⟨rfl, rfl⟩))
      go_ret
      exact ⟨ret_int HO.out.symm, b1⟩
    · rcases h3 : inR d 0 20000 with _ | _
      · have HO := Lib.hid (show codeI l s d d2 = 2 by simp [codeI, h1, h2, h3])
        go_enter Try.func141, Try.ntmps141
        go_wp2_with (first | (go_at_call 109; refine (implValidBookings_any A n c l B _ h hB hn hsm).mono ?_; rintro e w1 ⟨rfl, b1⟩) | (go_at_call 186; refine (implIsName_any _ _ hs).mono ?_; rintro e w2 ⟨rfl, rfl⟩) | (go_at_call 192; refine (isBookDay_any _ _).mono ?_; rintro e w2 ⟨rfl, rfl⟩) | (go_at_call 157; refine (within_any _ _ _ _).mono ?_; rintro e w2 ⟨rfl, rfl⟩))
        go_ret
        exact ⟨ret_int HO.out.symm, b1⟩
      · rcases h4 : inR d2 d 20000 with _ | _
        · have HO := Lib.hid (show codeI l s d d2 = 2 by simp [codeI, h1, h2, h3, h4])
          go_enter Try.func141, Try.ntmps141
          go_wp2_with (first | (go_at_call 109; refine (implValidBookings_any A n c l B _ h hB hn hsm).mono ?_; rintro e w1 ⟨rfl, b1⟩) | (go_at_call 186; refine (implIsName_any _ _ hs).mono ?_; rintro e w2 ⟨rfl, rfl⟩) | (go_at_call 192; refine (isBookDay_any _ _).mono ?_; rintro e w2 ⟨rfl, rfl⟩) | (go_at_call 157; refine (within_any _ _ _ _).mono ?_; rintro e w2 ⟨rfl, rfl⟩))
          go_ret
          exact ⟨ret_int HO.out.symm, b1⟩
        · have HO := Lib.hid (show codeI l s d d2 = 0 by simp [codeI, h1, h2, h3, h4])
          go_enter Try.func141, Try.ntmps141
          go_wp2_with (first | (go_at_call 109; refine (implValidBookings_any A n c l B _ h hB hn hsm).mono ?_; rintro e w1 ⟨rfl, b1⟩) | (go_at_call 186; refine (implIsName_any _ _ hs).mono ?_; rintro e w2 ⟨rfl, rfl⟩) | (go_at_call 192; refine (isBookDay_any _ _).mono ?_; rintro e w2 ⟨rfl, rfl⟩) | (go_at_call 157; refine (within_any _ _ _ _).mono ?_; rintro e w2 ⟨rfl, rfl⟩))
          go_ret
          exact ⟨ret_int HO.out.symm, b1⟩
end Go.Proofs.Ytnlghcpidlpfkaa
