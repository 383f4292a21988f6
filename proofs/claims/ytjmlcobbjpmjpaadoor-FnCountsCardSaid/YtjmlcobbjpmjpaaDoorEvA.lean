/- Events: the two range tests, the reference's and the program's test of a list of events, the copies of the law. -/
import Derived.Test.YtjmlcobbjpmjpaaDoorProg
import Derived.Test.YtjmlcobbjpmjpaaDoorRng
import Derived.Deep.RegionHeld3
import Derived.BigQuiet
set_option linter.unusedVariables false
namespace Go.Proofs.YtjmlcobbjpmjpaaDoor
open Go.RowKit

structure Ev where
  s : Int
  h : Int
def evc (e : Ev) : List Value := [.int .i64 e.s, .int .i64 e.h]
def evs (l : List Ev) : List Value := l.flatMap evc
theorem evs_length (l : List Ev) : (evs l).length = l.length * 2 := flat_length evc 2 (fun _ => rfl) l
theorem evs_get {l : List Ev} {i : Nat} {e : Ev} (h : l[i]? = some e) : (evs l)[i * 2]? = some (.int .i64 e.s) ∧ (evs l)[i * 2 + 1]? = some (.int .i64 e.h) :=
  ⟨flat_get evc 2 (fun _ => rfl) l i e h 0 (by omega), flat_get evc 2 (fun _ => rfl) l i e h 1 (by omega)⟩
theorem evs_len {w : World} {B n : Nat} {A : Option Addr} {l : List Ev} (h : Reads w B 2 A n (evs l)) : l.length = n := by
  have := h.1
  rw [evs_length] at this
  omega
theorem ev_at {w : World} {B n k : Nat} {A : Option Addr} {l : List Ev} (h : Reads w B 2 A n (evs l)) (hk : k < n) :
    ∃ (e : Ev) (b off : Nat), l[k]? = some e ∧ A = some ⟨b, off, none⟩ ∧ b < B ∧ w.cell? ⟨b, off + k * 2, none⟩ = some (.int .i64 e.s) ∧ w.cell? ⟨b, off + k * 2 + 1, none⟩ = some (.int .i64 e.h) := by
  obtain ⟨b, off, rfl, hb, hcell⟩ := h.at_ (by omega)
  have hl := evs_len h
  have he : l[k]? = some l[k] := List.getElem?_eq_getElem (by omega)
  obtain ⟨e0, e1⟩ := evs_get he
  exact ⟨_, b, off, he, rfl, hb, hcell _ _ e0, hcell _ _ e1⟩

def okE (e : Ev) : Bool := inR e.s 0 9 && inR e.h 0 23
def okEv (l : List Ev) : Bool := l.all okE && decide (l.length ≤ 200)

theorem l26Ok_any (A : Option Addr) (n c B : Nat) (l : List Ev) (w : World) (h : Reads w B 2 A n (evs l)) (hn : n ≤ 1048576) :
    Calls Tryd.prog 70 #[.slice A n c] w fun e w' => e = .returned (.bool (okEv l)) ∧ w = w' := by
  have hl := Lib.hid (evs_len h)
  go_enter Tryd.func70, Tryd.ntmps70
  go_wp2
  go_loop [3] (fun i => ∃ k : Nat, k ≤ n ∧ i = .int .i64 k ∧ AllTo okE l k) (fun i => n - (intOf i).toNat)
  case atStart => exact ⟨0, Nat.zero_le _, rfl, AllTo.zero _ _⟩
  case round =>
    obtain ⟨k, hk, rfl, hall⟩ := hrel
    have HA := Lib.hid hall
    clear hall
    by_cases hlt : k < n
    · obtain ⟨e, b, off, he, rfl, hb, c0, c1⟩ := ev_at h hlt
      have HE := Lib.hid he
      clear he
      by_cases h1 : inR e.s 0 9 = true
      · by_cases h2 : inR e.h 0 23 = true
        · have HO := Lib.hid (show okE e = true by simp [okE, h1, h2])
          go_wp2_with (go_at_call 71; refine (l00In_any _ _ _ _).mono ?_; rintro e w' ⟨rfl, rfl⟩)
          go_round
          case rel => exact ⟨k + 1, by omega, by go_num, HA.out.step HE.out HO.out⟩
          case measure => simp [intOf]; omega
        · have h2 : inR e.h 0 23 = false := by simpa using h2
          have HO := Lib.hid (show okEv l = false by simp [okEv, all_bad HE.out (show okE e = false by simp [okE, h2])])
          go_wp2_with (go_at_call 71; refine (l00In_any _ _ _ _).mono ?_; rintro e w' ⟨rfl, rfl⟩)
          go_ret
          exact ⟨ret_bool HO.out.symm, rfl⟩
      · have h1 : inR e.s 0 9 = false := by simpa using h1
        have HO := Lib.hid (show okEv l = false by simp [okEv, all_bad HE.out (show okE e = false by simp [okE, h1])])
        go_wp2_with (go_at_call 71; refine (l00In_any _ _ _ _).mono ?_; rintro e w' ⟨rfl, rfl⟩)
        go_ret
        exact ⟨ret_bool HO.out.symm, rfl⟩
    · obtain rfl : k = n := by omega
      have HO := Lib.hid (show okEv l = decide (k ≤ 200) by simp [okEv, HA.out.done hl.out, hl.out])
      go_wp2
      go_ret
      exact ⟨ret_bool (by rw [HO.out]; simp; omega), rfl⟩
end Go.Proofs.YtjmlcobbjpmjpaaDoor
