/- Clients: the tests of one client and of a list of clients. -/
import Derived.Test.YtnlghcpidlpfkaaSCl
import Derived.Test.YtnlghcpidlpfkaaName
import Derived.Test.YtnlghcpidlpfkaaRng
import Derived.Deep.QuietTactic
import Derived.Laws.Cover1
import Derived.IntWalk
set_option linter.unusedVariables false
namespace Go.Proofs.Ytnlghcpidlpfkaa
open Go.RowKit

def okCl (x : Cl) : Bool := isName x.name && (inR x.station 0 9 && (inR x.from_ 0 20000 && (inR x.to_ (x.from_ + 1) 20000 && inR x.quota 0 1000)))
theorem okCl_iff {x : Cl} : okCl x = true ↔ isName x.name = true ∧ (0 ≤ x.station ∧ x.station ≤ 9) ∧ (0 ≤ x.from_ ∧ x.from_ ≤ 20000) ∧ (x.from_ + 1 ≤ x.to_ ∧ x.to_ ≤ 20000) ∧ (0 ≤ x.quota ∧ x.quota ≤ 1000) := by
  simp only [okCl, Bool.and_eq_true, inR_true]
/-- One name stands ahead of another. -/
def sless (a b : ByteArray) : Bool := Op.bytesLess a.toList b.toList
def rowCl (l : List Cl) (i : Nat) : Bool := match l[i]? with
  | none => false
  | some x => okCl x && (decide (i = 0) || (match l[i - 1]? with | none => false | some y => sless y.name x.name))
theorem rowCl_bad {l : List Cl} {i : Nat} {x : Cl} (h : l[i]? = some x) (hx : okCl x = false) : rowCl l i = false := by simp [rowCl, h, hx]
theorem rowCl_zero {l : List Cl} {x : Cl} (h : l[0]? = some x) (hx : okCl x = true) : rowCl l 0 = true := by simp [rowCl, h, hx]
theorem rowCl_ok {l : List Cl} {i : Nat} {x y : Cl} (h : l[i]? = some x) (hx : okCl x = true) (hy : l[i - 1]? = some y) (hd : Op.bytesLess y.name.toList x.name.toList = true) : rowCl l i = true := by simp [rowCl, h, hx, hy, sless, hd]
theorem rowCl_late {l : List Cl} {i : Nat} {x y : Cl} (h : l[i]? = some x) (h0 : 0 < i) (hy : l[i - 1]? = some y) (hd : Op.bytesLess y.name.toList x.name.toList = false) : rowCl l i = false := by
  have : i ≠ 0 := by omega
  simp [rowCl, h, hy, sless, hd, this]
def okCls (l : List Cl) : Bool := (List.range l.length).all (rowCl l) && decide (l.length ≤ 30)
theorem crange_at {n k : Nat} (h : k < n) : (List.range n)[k]? = some k := by simp [h]

set_option maxHeartbeats 4000000 in
theorem l24One_any (x : Cl) (b off : Nat) (w : World) (hs : x.name.size ≤ 9223372036854775807) (hg : x.good) (c0 : w.cell? ⟨b, off, none⟩ = some (.string x.name)) (c1 : w.cell? ⟨b, off + 1, none⟩ = some (.int .i64 x.station)) (c2 : w.cell? ⟨b, off + 2, none⟩ = some (.int .i64 x.from_)) (c3 : w.cell? ⟨b, off + 3, none⟩ = some (.int .i64 x.to_)) (c4 : w.cell? ⟨b, off + 4, none⟩ = some (.int .i64 x.quota)) :
    Calls Try.prog 98 #[.pointer (some ⟨b, off, none⟩)] w fun e w' => e = .returned (.bool (okCl x)) ∧ ∃ m, w' = w.drewN m := by
  rcases h1 : isName x.name with _ | _
  · have HO := Lib.hid (show okCl x = false by simp [okCl, h1])
    have kN : ∀ W : World, Calls Try.prog 185 #[.string x.name] W fun e w' => e = .returned (.bool false) ∧ w' = W := fun W => (specIsName_any _ W hs).mono fun _ _ hh => ⟨by rw [hh.1, h1], hh.2.symm⟩
    clear h1
    go_enter Try.func98, Try.ntmps98
    go_wp2_with fail
    go_quiet (first | (go_at_call 185; with_reducible exact Calls.quiet_of_same (kN _)))
    go_wp2
    go_ret
    exact ⟨ret_bool HO.out.symm, _, rfl⟩
  · rcases h2 : inR x.station 0 9 with _ | _
    · have HO := Lib.hid (show okCl x = false by simp [okCl, h2])
      have kN : ∀ W : World, Calls Try.prog 185 #[.string x.name] W fun e w' => e = .returned (.bool true) ∧ w' = W := fun W => (specIsName_any _ W hs).mono fun _ _ hh => ⟨by rw [hh.1, h1], hh.2.symm⟩
      have kS : ∀ W : World, Calls Try.prog 159 #[.int .i64 x.station, .int .i64 0, .int .i64 9] W fun e w' => e = .returned (.bool false) ∧ w' = W := fun W => (l00In_any _ _ _ W).mono fun _ _ hh => ⟨by rw [hh.1, h2], hh.2.symm⟩
      clear h1 h2
      go_enter Try.func98, Try.ntmps98
      go_wp2_with fail
      go_quiet (first | (go_at_call 185; with_reducible exact Calls.quiet_of_same (kN _)) | (go_at_call 159; with_reducible exact Calls.quiet_of_same (kS _)))
      go_wp2
      go_ret
      exact ⟨ret_bool HO.out.symm, _, rfl⟩
    · rcases h3 : inR x.from_ 0 20000 with _ | _
      · have HO := Lib.hid (show okCl x = false by simp [okCl, h3])
        have kN : ∀ W : World, Calls Try.prog 185 #[.string x.name] W fun e w' => e = .returned (.bool true) ∧ w' = W := fun W => (specIsName_any _ W hs).mono fun _ _ hh => ⟨by rw [hh.1, h1], hh.2.symm⟩
        have kS : ∀ W : World, Calls Try.prog 159 #[.int .i64 x.station, .int .i64 0, .int .i64 9] W fun e w' => e = .returned (.bool true) ∧ w' = W := fun W => (l00In_any _ _ _ W).mono fun _ _ hh => ⟨by rw [hh.1, h2], hh.2.symm⟩
        have kF : ∀ W : World, Calls Try.prog 159 #[.int .i64 x.from_, .int .i64 0, .int .i64 20000] W fun e w' => e = .returned (.bool false) ∧ w' = W := fun W => (l00In_any _ _ _ W).mono fun _ _ hh => ⟨by rw [hh.1, h3], hh.2.symm⟩
        clear h1 h2 h3
        go_enter Try.func98, Try.ntmps98
        go_wp2_with fail
        go_quiet (first | (go_at_call 185; with_reducible exact Calls.quiet_of_same (kN _)) | (go_at_call 159; with_reducible exact Calls.quiet_of_same (kS _)) | (go_at_call 159; with_reducible exact Calls.quiet_of_same (kF _)))
        go_wp2
        go_ret
        exact ⟨ret_bool HO.out.symm, _, rfl⟩
      · have hf := inR_true.1 h3
        have hw : IntKind.i64.wrap (x.from_ + 1) = x.from_ + 1 := IntWalk.i64_in _ (by omega)
        clear hf
        rcases h4 : inR x.to_ (x.from_ + 1) 20000 with _ | _
        · have HO := Lib.hid (show okCl x = false by simp [okCl, h4])
          have kN : ∀ W : World, Calls Try.prog 185 #[.string x.name] W fun e w' => e = .returned (.bool true) ∧ w' = W := fun W => (specIsName_any _ W hs).mono fun _ _ hh => ⟨by rw [hh.1, h1], hh.2.symm⟩
          have kS : ∀ W : World, Calls Try.prog 159 #[.int .i64 x.station, .int .i64 0, .int .i64 9] W fun e w' => e = .returned (.bool true) ∧ w' = W := fun W => (l00In_any _ _ _ W).mono fun _ _ hh => ⟨by rw [hh.1, h2], hh.2.symm⟩
          have kF : ∀ W : World, Calls Try.prog 159 #[.int .i64 x.from_, .int .i64 0, .int .i64 20000] W fun e w' => e = .returned (.bool true) ∧ w' = W := fun W => (l00In_any _ _ _ W).mono fun _ _ hh => ⟨by rw [hh.1, h3], hh.2.symm⟩
          have kT : ∀ W : World, Calls Try.prog 159 #[.int .i64 x.to_, .int .i64 (x.from_ + 1), .int .i64 20000] W fun e w' => e = .returned (.bool false) ∧ w' = W := fun W => (l00In_any _ _ _ W).mono fun _ _ hh => ⟨by rw [hh.1, h4], hh.2.symm⟩
          clear h1 h2 h3 h4
          go_enter Try.func98, Try.ntmps98
          go_wp2_with fail
          go_quiet (first | (go_at_call 185; with_reducible exact Calls.quiet_of_same (kN _)) | (go_at_call 159; with_reducible exact Calls.quiet_of_same (kS _)) | (go_at_call 159; with_reducible exact Calls.quiet_of_same (kF _)) | (go_at_call 159; with_reducible exact Calls.quiet_of_same (kT _)))
          go_wp2
          go_ret
          exact ⟨ret_bool HO.out.symm, _, rfl⟩
        · rcases h5 : inR x.quota 0 1000 with _ | _
          · have HO := Lib.hid (show okCl x = false by simp [okCl, h5])
            have kN : ∀ W : World, Calls Try.prog 185 #[.string x.name] W fun e w' => e = .returned (.bool true) ∧ w' = W := fun W => (specIsName_any _ W hs).mono fun _ _ hh => ⟨by rw [hh.1, h1], hh.2.symm⟩
            have kS : ∀ W : World, Calls Try.prog 159 #[.int .i64 x.station, .int .i64 0, .int .i64 9] W fun e w' => e = .returned (.bool true) ∧ w' = W := fun W => (l00In_any _ _ _ W).mono fun _ _ hh => ⟨by rw [hh.1, h2], hh.2.symm⟩
            have kF : ∀ W : World, Calls Try.prog 159 #[.int .i64 x.from_, .int .i64 0, .int .i64 20000] W fun e w' => e = .returned (.bool true) ∧ w' = W := fun W => (l00In_any _ _ _ W).mono fun _ _ hh => ⟨by rw [hh.1, h3], hh.2.symm⟩
            have kT : ∀ W : World, Calls Try.prog 159 #[.int .i64 x.to_, .int .i64 (x.from_ + 1), .int .i64 20000] W fun e w' => e = .returned (.bool true) ∧ w' = W := fun W => (l00In_any _ _ _ W).mono fun _ _ hh => ⟨by rw [hh.1, h4], hh.2.symm⟩
            have kQ : ∀ W : World, Calls Try.prog 159 #[.int .i64 x.quota, .int .i64 0, .int .i64 1000] W fun e w' => e = .returned (.bool false) ∧ w' = W := fun W => (l00In_any _ _ _ W).mono fun _ _ hh => ⟨by rw [hh.1, h5], hh.2.symm⟩
            clear h1 h2 h3 h4 h5
            go_enter Try.func98, Try.ntmps98
            go_wp2_with fail
            go_quiet (first | (go_at_call 185; with_reducible exact Calls.quiet_of_same (kN _)) | (go_at_call 159; with_reducible exact Calls.quiet_of_same (kS _)) | (go_at_call 159; with_reducible exact Calls.quiet_of_same (kF _)) | (go_at_call 159; with_reducible exact Calls.quiet_of_same (kT _)) | (go_at_call 159; with_reducible exact Calls.quiet_of_same (kQ _)))
            go_wp2
            go_ret
            exact ⟨ret_bool HO.out.symm, _, rfl⟩
          · have HO := Lib.hid (show okCl x = true by simp [okCl, h1, h2, h3, h4, h5])
            have kN : ∀ W : World, Calls Try.prog 185 #[.string x.name] W fun e w' => e = .returned (.bool true) ∧ w' = W := fun W => (specIsName_any _ W hs).mono fun _ _ hh => ⟨by rw [hh.1, h1], hh.2.symm⟩
            have kS : ∀ W : World, Calls Try.prog 159 #[.int .i64 x.station, .int .i64 0, .int .i64 9] W fun e w' => e = .returned (.bool true) ∧ w' = W := fun W => (l00In_any _ _ _ W).mono fun _ _ hh => ⟨by rw [hh.1, h2], hh.2.symm⟩
            have kF : ∀ W : World, Calls Try.prog 159 #[.int .i64 x.from_, .int .i64 0, .int .i64 20000] W fun e w' => e = .returned (.bool true) ∧ w' = W := fun W => (l00In_any _ _ _ W).mono fun _ _ hh => ⟨by rw [hh.1, h3], hh.2.symm⟩
            have kT : ∀ W : World, Calls Try.prog 159 #[.int .i64 x.to_, .int .i64 (x.from_ + 1), .int .i64 20000] W fun e w' => e = .returned (.bool true) ∧ w' = W := fun W => (l00In_any _ _ _ W).mono fun _ _ hh => ⟨by rw [hh.1, h4], hh.2.symm⟩
            have kQ : ∀ W : World, Calls Try.prog 159 #[.int .i64 x.quota, .int .i64 0, .int .i64 1000] W fun e w' => e = .returned (.bool true) ∧ w' = W := fun W => (l00In_any _ _ _ W).mono fun _ _ hh => ⟨by rw [hh.1, h5], hh.2.symm⟩
            clear h1 h2 h3 h4 h5
            go_enter Try.func98, Try.ntmps98
            go_wp2_with fail
            go_quiet (first | (go_at_call 185; with_reducible exact Calls.quiet_of_same (kN _)) | (go_at_call 159; with_reducible exact Calls.quiet_of_same (kS _)) | (go_at_call 159; with_reducible exact Calls.quiet_of_same (kF _)) | (go_at_call 159; with_reducible exact Calls.quiet_of_same (kT _)) | (go_at_call 159; with_reducible exact Calls.quiet_of_same (kQ _)))
            go_wp2
            go_ret
            exact ⟨ret_bool HO.out.symm, _, rfl⟩

set_option maxHeartbeats 2000000 in
theorem validClient_any (x : Cl) (w : World) (hs : x.name.size ≤ 9223372036854775807) :
    Calls Try.prog 101 #[.agg #[.string x.name, .int .i64 x.station, .int .i64 x.from_, .int .i64 x.to_, .int .i64 x.quota]] w fun e w' => e = .returned (.bool (okCl x)) ∧ Below w.heap.size w w' := by
  rcases h1 : isName x.name with _ | _
  · have HO := Lib.hid (show okCl x = false by simp [okCl, h1])
    go_enter Try.func101, Try.ntmps101
    go_wp2_with (first | (go_at_call 157; refine (within_any _ _ _ _).mono ?_; rintro e w2 ⟨rfl, rfl⟩) | (go_at_call 186; refine (implIsName_any _ _ hs).mono ?_; rintro e w2 ⟨rfl, rfl⟩))
    go_ret
    exact ⟨ret_bool HO.out.symm, (Below.refl _ _).alloc (Nat.le_refl _) _⟩
  · rcases h2 : inR x.station 0 9 with _ | _
    · have HO := Lib.hid (show okCl x = false by simp [okCl, h2])
      go_enter Try.func101, Try.ntmps101
      go_wp2_with (first | (go_at_call 157; refine (within_any _ _ _ _).mono ?_; rintro e w2 ⟨rfl, rfl⟩) | (go_at_call 186; refine (implIsName_any _ _ hs).mono ?_; rintro e w2 ⟨rfl, rfl⟩))
      go_ret
      exact ⟨ret_bool HO.out.symm, (Below.refl _ _).alloc (Nat.le_refl _) _⟩
    · by_cases h3 : 0 ≤ x.from_
      case neg =>
        have HO := Lib.hid (show okCl x = false by (rcases h : okCl x with _ | _); (· rfl); (· have := okCl_iff.1 h; omega))
        have h3' : decide (0 ≤ x.from_) = false := decide_eq_false h3
        go_enter Try.func101, Try.ntmps101
        go_wp2_with (first | (go_at_call 157; refine (within_any _ _ _ _).mono ?_; rintro e w2 ⟨rfl, rfl⟩) | (go_at_call 186; refine (implIsName_any _ _ hs).mono ?_; rintro e w2 ⟨rfl, rfl⟩))
        go_ret
        exact ⟨ret_bool HO.out.symm, (Below.refl _ _).alloc (Nat.le_refl _) _⟩
      case pos =>
        by_cases h4 : x.from_ < x.to_
        case neg =>
          have HO := Lib.hid (show okCl x = false by (rcases h : okCl x with _ | _); (· rfl); (· have := okCl_iff.1 h; omega))
          have h4' : decide (x.from_ < x.to_) = false := decide_eq_false h4
          go_enter Try.func101, Try.ntmps101
          go_wp2_with (first | (go_at_call 157; refine (within_any _ _ _ _).mono ?_; rintro e w2 ⟨rfl, rfl⟩) | (go_at_call 186; refine (implIsName_any _ _ hs).mono ?_; rintro e w2 ⟨rfl, rfl⟩))
          go_ret
          exact ⟨ret_bool HO.out.symm, (Below.refl _ _).alloc (Nat.le_refl _) _⟩
        case pos =>
          by_cases h5 : x.to_ ≤ 20000
          case neg =>
            have HO := Lib.hid (show okCl x = false by (rcases h : okCl x with _ | _); (· rfl); (· have := okCl_iff.1 h; omega))
            have h5' : decide (x.to_ ≤ 20000) = false := decide_eq_false h5
            go_enter Try.func101, Try.ntmps101
            go_wp2_with (first | (go_at_call 157; refine (within_any _ _ _ _).mono ?_; rintro e w2 ⟨rfl, rfl⟩) | (go_at_call 186; refine (implIsName_any _ _ hs).mono ?_; rintro e w2 ⟨rfl, rfl⟩))
            go_ret
            exact ⟨ret_bool HO.out.symm, (Below.refl _ _).alloc (Nat.le_refl _) _⟩
          case pos =>
            rcases h6 : inR x.quota 0 1000 with _ | _
            · have HO := Lib.hid (show okCl x = false by simp [okCl, h6])
              go_enter Try.func101, Try.ntmps101
              go_wp2_with (first | (go_at_call 157; refine (within_any _ _ _ _).mono ?_; rintro e w2 ⟨rfl, rfl⟩) | (go_at_call 186; refine (implIsName_any _ _ hs).mono ?_; rintro e w2 ⟨rfl, rfl⟩))
              go_ret
              exact ⟨ret_bool HO.out.symm, (Below.refl _ _).alloc (Nat.le_refl _) _⟩
            · have HO := Lib.hid (show okCl x = true by have g2 := inR_true.1 h2; have g6 := inR_true.1 h6; exact okCl_iff.2 ⟨h1, g2, ⟨h3, by omega⟩, ⟨by omega, h5⟩, g6⟩)
              go_enter Try.func101, Try.ntmps101
              go_wp2_with (first | (go_at_call 157; refine (within_any _ _ _ _).mono ?_; rintro e w2 ⟨rfl, rfl⟩) | (go_at_call 186; refine (implIsName_any _ _ hs).mono ?_; rintro e w2 ⟨rfl, rfl⟩))
              go_ret
              exact ⟨ret_bool HO.out.symm, (Below.refl _ _).alloc (Nat.le_refl _) _⟩
end Go.Proofs.Ytnlghcpidlpfkaa
