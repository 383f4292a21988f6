/- The first place of a greatest number, in the reference's way and in the program's. -/
import Derived.Test.YtjmlcobbjpmjpaaDoorI64
set_option linter.unusedVariables false
namespace Go.Proofs.YtjmlcobbjpmjpaaDoor
open Go.RowKit

def bestTo (xs : List Int) : Nat → Nat
  | 0 => 0
  | k + 1 => if xs.getD (bestTo xs k) 0 < xs.getD k 0 then k else bestTo xs k
def valTo (xs : List Int) (k : Nat) : Int := xs.getD (bestTo xs k) 0
theorem getD_of {xs : List Int} {k : Nat} {x : Int} (h : xs[k]? = some x) : xs.getD k 0 = x := by simp [List.getD, h]
theorem bestTo_one (xs : List Int) : bestTo xs 1 = 0 := by simp [bestTo]
theorem bestTo_lt (xs : List Int) : ∀ k, bestTo xs (k + 1) < k + 1
  | 0 => by simp [bestTo]
  | k + 1 => by
    have := bestTo_lt xs k
    rw [bestTo]
    split <;> omega
theorem bestTo_lt' (xs : List Int) {k : Nat} (h : 0 < k) : bestTo xs k < k := by
  obtain ⟨j, rfl⟩ : ∃ j, k = j + 1 := ⟨k - 1, by omega⟩
  exact bestTo_lt xs j
theorem bestTo_up {xs : List Int} {k : Nat} {x : Int} (hx : xs[k]? = some x) (h : valTo xs k < x) : bestTo xs (k + 1) = k ∧ valTo xs (k + 1) = x := by
  have h' : bestTo xs (k + 1) = k := by unfold valTo at h; rw [bestTo, getD_of hx, if_pos h]
  exact ⟨h', by rw [valTo, h', getD_of hx]⟩
theorem bestTo_stay {xs : List Int} {k : Nat} {x : Int} (hx : xs[k]? = some x) (h : ¬ valTo xs k < x) : bestTo xs (k + 1) = bestTo xs k ∧ valTo xs (k + 1) = valTo xs k := by
  have h' : bestTo xs (k + 1) = bestTo xs k := by unfold valTo at h; rw [bestTo, getD_of hx, if_neg h]
  exact ⟨h', by rw [valTo, h', valTo]⟩
theorem best_le (xs : List Int) : ∀ k j, j < k → xs.getD j 0 ≤ valTo xs k
  | 0, j, h => by omega
  | k + 1, j, h => by
    by_cases hj : j = k
    · subst hj
      unfold valTo
      rw [bestTo]
      split <;> omega
    · have := best_le xs k j (by omega)
      unfold valTo at this ⊢
      rw [bestTo]
      split <;> omega
theorem best_first (xs : List Int) : ∀ k j, j < bestTo xs k → xs.getD j 0 < valTo xs k
  | 0, j, h => by simp [bestTo] at h
  | k + 1, j, h => by
    unfold valTo
    rw [bestTo] at h ⊢
    split
    · rename_i hc
      rw [if_pos hc] at h
      have := best_le xs k j h
      unfold valTo at this
      omega
    · rename_i hc
      rw [if_neg hc] at h
      have := best_first xs k j h
      unfold valTo at this
      omega

theorem l26Most_any (A : Option Addr) (n c B : Nat) (xs : List Int) (w : World) (h : Reads w B 1 A n (ints xs)) (hB : B ≤ w.heap.size) (hn0 : 0 < n) (hn : n ≤ 1048576) :
    Calls Tryd.prog 77 #[.slice A n c] w fun e w' => e = .returned (.int .i64 (bestTo xs n)) ∧ Below w.heap.size w w' := by
  go_enter Tryd.func77, Tryd.ntmps77
  go_wp2
  go_loopw [3, 4] (fun q i wr => ∃ k : Nat, 1 ≤ k ∧ k ≤ n ∧ i = .int .i64 k ∧ q = .int .i64 (bestTo xs k) ∧ Below w.heap.size w wr) (fun _ i _ => n - (intOf i).toNat)
  case atStart => exact ⟨1, by omega, by omega, rfl, by rw [bestTo_one]; rfl, Below.refl _ _⟩
  case round =>
    obtain ⟨k, hk1, hk, rfl, rfl, hbel⟩ := hrel
    have HB := Lib.hid hbel
    have hbl := bestTo_lt' xs (k := k) (by omega)
    by_cases hlt : k < n
    · obtain ⟨x, b, off, he, rfl, hb, c0⟩ := int_at (h.on hB hbel) hlt
      obtain ⟨y, b', off', he', e2, hb', c1⟩ := int_at (k := bestTo xs k) (h.on hB hbel) (by omega)
      injection e2 with e2; injection e2 with e2 e2'; subst e2; subst e2'
      have hv : valTo xs k = y := getD_of he'
      by_cases hyx : y < x
      · have HU := Lib.hid (bestTo_up he (by rw [hv]; exact hyx))
        clear he he' hbel h hv
        generalize hq : bestTo xs k = q at *
        have HQ := Lib.hid hq
        clear hq
        have i0 : (0 : Int) ≤ k := by omega
        have i1 : (k : Int) < n := by omega
        have i2 : (0 : Int) ≤ q := by omega
        have i3 : (q : Int) < n := by omega
        go_wp2_with fail
        go_quiet (fail)
        go_wp2
        go_roundw
        case rel => exact ⟨k + 1, by omega, by omega, by go_num, by rw [HU.out.1], below_drewN HB.out _⟩
        case measure => simp [intOf]; omega
      · have HU := Lib.hid (bestTo_stay he (by rw [hv]; exact hyx))
        clear he he' hbel h hv
        generalize hq : bestTo xs k = q at *
        have HQ := Lib.hid hq
        clear hq
        have i0 : (0 : Int) ≤ k := by omega
        have i1 : (k : Int) < n := by omega
        have i2 : (0 : Int) ≤ q := by omega
        have i3 : (q : Int) < n := by omega
        go_wp2_with fail
        go_quiet (fail)
        go_wp2
        go_roundw
        case rel => exact ⟨k + 1, by omega, by omega, by go_num, by rw [HU.out.1], below_drewN HB.out _⟩
        case measure => simp [intOf]; omega
    · obtain rfl : k = n := by omega
      go_wp2
      go_ret
      exact ⟨rfl, hbel⟩

theorem slicesMax_any (A : Option Addr) (n c B : Nat) (xs : List Int) (w : World) (h : Reads w B 1 A n (ints xs)) (hn0 : 0 < n) (hn : n ≤ 1048576) :
    Calls Tryd.prog 109 #[.slice A n c] w fun e w' => e = .returned (.int .i64 (valTo xs n)) ∧ w = w' := by
  obtain ⟨x0, b, off, he0, rfl, hb, c0⟩ := int_at h hn0
  have HV := Lib.hid (show valTo xs 1 = x0 by rw [valTo, bestTo_one]; exact getD_of he0)
  clear he0
  rw [Nat.add_zero] at c0
  go_enter Tryd.func109, Tryd.ntmps109
  go_wp2
  go_loop [3, 4] (fun q i => ∃ k : Nat, 1 ≤ k ∧ k ≤ n ∧ i = .int .i64 k ∧ q = .int .i64 (valTo xs k)) (fun _ i => n - (intOf i).toNat)
  case atStart => exact ⟨1, by omega, by omega, rfl, by rw [HV.out]⟩
  case round =>
    obtain ⟨k, hk1, hk, rfl, rfl⟩ := hrel
    clear c0
    by_cases hlt : k < n
    · obtain ⟨x, b', off', he, e2, hb', c0⟩ := int_at h hlt
      injection e2 with e2; injection e2 with e2 e2'; subst e2; subst e2'
      by_cases hyx : valTo xs k < x
      · have HU := Lib.hid (bestTo_up he hyx)
        clear he h
        go_wp2
        go_round
        case rel => exact ⟨k + 1, by omega, by omega, by go_num, by rw [HU.out.2]⟩
        case measure => simp [intOf]; omega
      · have HU := Lib.hid (bestTo_stay he hyx)
        clear he h
        go_wp2
        go_round
        case rel => exact ⟨k + 1, by omega, by omega, by go_num, by rw [HU.out.2]⟩
        case measure => simp [intOf]; omega
    · obtain rfl : k = n := by omega
      go_wp2
      go_ret
      exact ⟨rfl, rfl⟩

theorem slicesIndex_any (A : Option Addr) (n c B j : Nat) (v : Int) (xs : List Int) (w : World) (h : Reads w B 1 A n (ints xs)) (hn : n ≤ 1048576) (hj : j < n) (hv : xs[j]? = some v) (hf : ∀ i, i < j → xs.getD i 0 < v) :
    Calls Tryd.prog 110 #[.slice A n c, .int .i64 v] w fun e w' => e = .returned (.int .i64 j) ∧ w = w' := by
  have HV := Lib.hid hv
  have HF := Lib.hid hf
  clear hv hf
  go_enter Tryd.func110, Tryd.ntmps110
  go_wp2
  go_loop [8] (fun i => ∃ k : Nat, k ≤ j ∧ i = .int .i64 k) (fun i => n - (intOf i).toNat)
  case atStart => exact ⟨0, by omega, rfl⟩
  case round =>
    obtain ⟨k, hk, rfl⟩ := hrel
    obtain ⟨x, b, off, he, rfl, hb, c0⟩ := int_at (k := k) h (by omega)
    by_cases hlt : k < j
    · have hx := HF.out k hlt
      rw [getD_of he] at hx
      have hne : (v == x) = false := by rw [beq_eq_false_iff_ne]; omega
      clear he h
      go_wp2
      go_round
      case rel => exact ⟨k + 1, by omega, by go_num⟩
      case measure => simp [intOf]; omega
    · obtain rfl : k = j := by omega
      have hxv : v = x := by have := HV.out; rw [he] at this; injection this with this; exact this.symm
      subst hxv
      clear he h
      go_wp2
      go_ret
      exact ⟨rfl, rfl⟩

theorem greatest_any (A : Option Addr) (n c B : Nat) (xs : List Int) (w : World) (h : Reads w B 1 A n (ints xs)) (hn0 : 0 < n) (hn : n ≤ 1048576) :
    Calls Tryd.prog 76 #[.slice A n c] w fun e w' => e = .returned (.tuple #[.int .i64 (bestTo xs n), .int .i64 (valTo xs n)]) ∧ w = w' := by
  have hl := ints_len h
  have hbl := bestTo_lt' xs hn0
  have HG := Lib.hid (show xs[bestTo xs n]? = some (valTo xs n) by rw [List.getElem?_eq_getElem (by omega)]; rw [valTo]; simp [List.getD, List.getElem?_eq_getElem (show bestTo xs n < xs.length by omega)])
  have HL := Lib.hid hl
  clear hl
  go_enter Tryd.func76, Tryd.ntmps76
  go_wp2_with fail
  refine (slicesMax_any _ _ _ _ xs _ h hn0 hn).mono ?_
  rintro e w' ⟨rfl, rfl⟩
  go_wp2_with fail
  refine (slicesIndex_any _ _ _ _ _ _ xs _ h hn hbl HG.out (fun i hi => best_first xs n i hi)).mono ?_
  rintro e w' ⟨rfl, rfl⟩
  go_wp2
  go_ret2
  exact ⟨rfl, rfl⟩
end Go.Proofs.YtjmlcobbjpmjpaaDoor
