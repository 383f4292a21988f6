/- Numbers outside a range: the program's outside. -/
import Derived.Test.YtgcepomehgedfaaGreatDoorVdS
set_option linter.unusedVariables false
set_option linter.unusedSimpArgs false
namespace Go.Proofs.YtgcepomehgedfaaGreatDoor
open Go.RowKit

theorem outside1_any (x lo hi : Int) (g1 g2 : Nat) (w : World) (k1 : w.cell? ⟨g1, 0, none⟩ = some (.int .i64 lo)) (k2 : w.cell? ⟨g2, 0, none⟩ = some (.int .i64 hi)) :
    Calls Tryz.prog 72 #[.int .i64 x, .pointer (some ⟨g1, 0, none⟩), .pointer (some ⟨g2, 0, none⟩)] w fun e w' => e = .returned (.bool (!inR x lo hi)) ∧ w = w' := by
  go_enter Tryz.func72, Tryz.ntmps72
  go_wp2_with fail
  refine (within_any _ _ _ _).mono ?_
  rintro e w1 ⟨rfl, rfl⟩
  go_wp2
  go_ret
  exact ⟨rfl, rfl⟩
theorem indexFuncI_any (A : Option Addr) (n c B : Nat) (l : List Int) (lo hi : Int) (g1 g2 : Nat) (w : World) (h : Reads w B 1 A n (ints l)) (hn : n ≤ 1048576) (k1 : w.cell? ⟨g1, 0, none⟩ = some (.int .i64 lo)) (k2 : w.cell? ⟨g2, 0, none⟩ = some (.int .i64 hi)) :
    Calls Tryz.prog 84 #[.slice A n c, .func (.func 72) #[] #[.pointer (some ⟨g1, 0, none⟩), .pointer (some ⟨g2, 0, none⟩)]] w fun e w' => e = .returned (.int .i64 (idxI (fun x => !inR x lo hi) l)) ∧ w = w' := by
  have hl := Lib.hid (ints_len h)
  go_enter Tryz.func84, Tryz.ntmps84
  go_wp2
  go_loop [8] (fun i => ∃ k : Nat, k ≤ n ∧ i = .int .i64 k ∧ AllTo (fun x => inR x lo hi) l k) (fun i => n - (intOf i).toNat)
  case atStart => exact ⟨0, Nat.zero_le _, rfl, AllTo.zero _ _⟩
  case round =>
    obtain ⟨k, hk, rfl, hall⟩ := hrel
    have HA := Lib.hid hall
    clear hall
    by_cases hlt : k < n
    · obtain ⟨x, b, off, he, rfl, hb, c0⟩ := int_at h hlt
      have HE := Lib.hid he
      clear he h
      go_wp2_with fail
      refine (outside1_any x lo hi g1 g2 w k1 k2).mono ?_
      rintro e w1 ⟨rfl, rfl⟩
      rcases ho : inR x lo hi with _ | _
      · have HO := Lib.hid (show idxI (fun x => !inR x lo hi) l = k from idxI_found HE.out (by simp [ho]) (HA.out.imp fun x hx => by simp [hx]))
        go_wp2
        go_ret
        exact ⟨ret_int HO.out.symm, rfl⟩
      · have HO := Lib.hid ho
        go_wp2
        go_round
        case rel => exact ⟨k + 1, by omega, by go_num, HA.out.step (p := fun x => inR x lo hi) HE.out HO.out⟩
        case measure => simp [intOf]; omega
    · obtain rfl : k = n := by omega
      have HO := Lib.hid (show idxI (fun x => !inR x lo hi) l = -1 from idxI_none (HA.out.imp fun x hx => by simp [hx]) hl.out)
      go_wp2
      go_ret
      exact ⟨ret_int HO.out.symm, rfl⟩
theorem containsFuncI_any (A : Option Addr) (n c B : Nat) (l : List Int) (lo hi : Int) (g1 g2 : Nat) (w : World) (h : Reads w B 1 A n (ints l)) (hn : n ≤ 1048576) (k1 : w.cell? ⟨g1, 0, none⟩ = some (.int .i64 lo)) (k2 : w.cell? ⟨g2, 0, none⟩ = some (.int .i64 hi)) :
    Calls Tryz.prog 71 #[.slice A n c, .func (.func 72) #[] #[.pointer (some ⟨g1, 0, none⟩), .pointer (some ⟨g2, 0, none⟩)]] w fun e w' => e = .returned (.bool (!l.all fun x => inR x lo hi)) ∧ w = w' := by
  have HO := Lib.hid (show decide (0 ≤ idxI (fun x => !inR x lo hi) l) = !l.all fun x => inR x lo hi from by rw [idxI_nonneg]; simp [List.any_eq_not_all_not])
  go_enter Tryz.func71, Tryz.ntmps71
  go_wp2_with fail
  refine (indexFuncI_any A n c B l lo hi g1 g2 w h hn k1 k2).mono ?_
  rintro e w1 ⟨rfl, rfl⟩
  go_wp2
  go_ret
  exact ⟨ret_bool HO.out, rfl⟩
end Go.Proofs.YtgcepomehgedfaaGreatDoor
