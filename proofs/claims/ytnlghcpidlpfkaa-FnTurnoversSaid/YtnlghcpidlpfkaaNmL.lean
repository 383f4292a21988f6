/- The clients with a booking, both sides. -/
import Derived.Test.YtnlghcpidlpfkaaNmS
import Derived.Test.YtnlghcpidlpfkaaBkC
set_option linter.unusedVariables false
set_option linter.unusedSimpArgs false
namespace Go.Proofs.Ytnlghcpidlpfkaa
open Go.RowKit

def bookedN (l : List Bk) : List ByteArray × Int := if okBks l = true then (namesB l, 0) else ([], 1)
theorem bookedN_ok {l : List Bk} (h : okBks l = true) : bookedN l = (namesB l, 0) := by simp [bookedN, h]
theorem bookedN_bad {l : List Bk} (h : okBks l = false) : bookedN l = ([], 1) := by simp [bookedN, h]
theorem namesB_len (l : List Bk) : (namesB l).length ≤ l.length := by
  have := (uniqB_facts (l.map fun b : Bk => b.client)).2.2
  rw [List.length_map] at this
  exact this
theorem okBks_len80 {l : List Bk} (h : okBks l = true) : l.length ≤ 80 := by
  unfold okBks at h
  rw [Bool.and_eq_true, decide_eq_true_eq] at h
  exact h.2
theorem cntClientsBooked_len {l : List Bk} {m : Nat} (h : (strs (bookedN l).1).length = m * 1) : m ≤ 1048576 := by
  rw [strs_length] at h
  rcases hok : okBks l with _ | _
  · rw [bookedN_bad hok] at h; simp at h; omega
  · rw [bookedN_ok hok] at h
    have h1 := namesB_len l
    have h2 := okBks_len80 hok
    simp only at h
    omega
set_option maxRecDepth 100000 in
theorem specClientsBooked_any (A : Option Addr) (n c : Nat) (l : List Bk) (B : Nat) (w : World) (h : Reads w B 3 A n (bks l)) (hB : B ≤ w.heap.size) (hn : n ≤ 1048576) (hsm : ∀ x ∈ l, x.small) :
    Calls Try.prog 44 #[.slice A n c] w fun e w' => ∃ A' m d, e = .returned (.tuple #[.slice A' m d, .int .i64 (bookedN l).2]) ∧ Sl w' w.heap.size w'.heap.size 9 1 A' m d (strs (bookedN l).1) ∧ Below w.heap.size w w' := by
  rcases hok : okBks l with _ | _
  · rw [bookedN_bad hok]
    have HOK := Lib.hid hok
    clear hok
    go_enter Try.func44, Try.ntmps44
    go_wp2_with fail
    refine (l25Ok_any _ _ _ _ l _ h hn hB hsm).mono ?_
    rw [HOK.out]
    rintro e w1 ⟨rfl, b1⟩
    have HB1 := Lib.hid b1
    clear b1
    go_wp2
    go_ret2
    exact ⟨_, _, _, rfl, Sl.nil _ _ _ _ _, HB1.out⟩
  · rw [bookedN_ok hok]
    have HOK := Lib.hid hok
    clear hok
    have HH := Lib.hid h
    go_enter Try.func44, Try.ntmps44
    go_wp2_with fail
    refine (l25Ok_any _ _ _ _ l _ h hn hB hsm).mono ?_
    rw [HOK.out]
    rintro e w1 ⟨rfl, b1⟩
    have z1 := b1.size
    have h1 := h.on hB b1
    have HB1 := Lib.hid b1
    clear b1
    go_wp2_with fail
    refine (l25Names_any _ _ _ _ l _ h1 (by omega) hn).mono ?_
    rintro e w2 ⟨A', m, d, rfl, s2, b2⟩
    have HS2 := Lib.hid (s2.wide z1 (Nat.le_refl _))
    have HB2 := Lib.hid (bnext HB1.out b2 (Nat.le_refl _))
    clear s2 b2
    go_wp2
    go_ret2
    exact ⟨_, _, _, rfl, HS2.out, HB2.out⟩
set_option maxRecDepth 100000 in
theorem implClientsBooked_any (A : Option Addr) (n c : Nat) (l : List Bk) (B : Nat) (w : World) (h : Reads w B 3 A n (bks l)) (hB : B ≤ w.heap.size) (hn : n ≤ 1048576) (hsm : ∀ x ∈ l, x.small) :
    Calls Try.prog 45 #[.slice A n c] w fun e w' => ∃ A' m d, e = .returned (.tuple #[.slice A' m d, .int .i64 (bookedN l).2]) ∧ Sl w' w.heap.size w'.heap.size 9 1 A' m d (strs (bookedN l).1) ∧ Below w.heap.size w w' := by
  rcases hok : okBks l with _ | _
  · rw [bookedN_bad hok]
    have HOK := Lib.hid hok
    clear hok
    go_enter Try.func45, Try.ntmps45
    go_wp2_with fail
    refine (implValidBookings_any _ _ _ l _ _ h hB hn hsm).mono ?_
    rw [HOK.out]
    rintro e w1 ⟨rfl, b1⟩
    have HB1 := Lib.hid b1
    clear b1
    go_wp2
    go_ret2
    exact ⟨_, _, _, rfl, Sl.nil _ _ _ _ _, HB1.out⟩
  · rw [bookedN_ok hok]
    have HOK := Lib.hid hok
    clear hok
    have HH := Lib.hid h
    go_enter Try.func45, Try.ntmps45
    go_wp2_with fail
    refine (implValidBookings_any _ _ _ l _ _ h hB hn hsm).mono ?_
    rw [HOK.out]
    rintro e w1 ⟨rfl, b1⟩
    have z1 := b1.size
    have h1 := h.on hB b1
    have HB1 := Lib.hid b1
    clear b1
    go_wp2_with fail
    refine (clientsBooked_any _ _ _ _ l _ h1 (by omega) hn).mono ?_
    rintro e w2 ⟨A', m, d, rfl, s2, b2⟩
    have HS2 := Lib.hid (s2.wide z1 (Nat.le_refl _))
    have HB2 := Lib.hid (bnext HB1.out b2 (Nat.le_refl _))
    clear s2 b2
    go_wp2
    go_ret2
    exact ⟨_, _, _, rfl, HS2.out, HB2.out⟩
end Go.Proofs.Ytnlghcpidlpfkaa
