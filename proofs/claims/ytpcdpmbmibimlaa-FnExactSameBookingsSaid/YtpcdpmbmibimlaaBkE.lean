/- Bookings: two lists compared. -/
import Derived.Test.YtpcdpmbmibimlaaSBk
import Derived.Test.YtpcdpmbmibimlaaRng
import Derived.Laws.StructEq
import Derived.Deep.QuietTactic
set_option linter.unusedVariables false
namespace Go.Proofs.Ytpcdpmbmibimlaa
open Go.RowKit

def sameBk (x y : Bk) : Bool := x.day == y.day && (x.client.toList == y.client.toList && x.amount == y.amount)
def rowSame (l l' : List Bk) (i : Nat) : Bool := match l[i]?, l'[i]? with
  | some x, some y => sameBk x y
  | _, _ => false
theorem rowSame_at {l l' : List Bk} {i : Nat} {x y : Bk} (h : l[i]? = some x) (h' : l'[i]? = some y) : rowSame l l' i = sameBk x y := by simp [rowSame, h, h']
def sameBks (l l' : List Bk) : Bool := decide (l.length = l'.length) && (List.range l.length).all (rowSame l l')
theorem range_at' {n k : Nat} (h : k < n) : (List.range n)[k]? = some k := by simp [h]

set_option maxHeartbeats 2000000 in
theorem specSameBookings_any (A : Option Addr) (n c : Nat) (l : List Bk) (A' : Option Addr) (n' c' : Nat) (l' : List Bk) (B : Nat) (w : World) (h : Reads w B 3 A n (bks l)) (h' : Reads w B 3 A' n' (bks l')) (hB : B ≤ w.heap.size) (hn : n ≤ 1048576) (hs : ∀ x ∈ l, x.small) (hn' : n' ≤ 1048576) (hs' : ∀ x ∈ l', x.small) :
    Calls Try.prog 30 #[.slice A n c, .slice A' n' c'] w fun e w' => e = .returned (.bool (sameBks l l')) ∧ Below w.heap.size w w' := by
  have hl := Lib.hid (bks_len h)
  have hl' := Lib.hid (bks_len h')
  by_cases hnn : n = n'
  · subst hnn
    go_enter Try.func30, Try.ntmps30
    go_wp2
    go_loopw [5] (fun i wr => ∃ k : Nat, k ≤ n ∧ i = .int .i64 k ∧ AllTo (rowSame l l') (List.range n) k ∧ Below w.heap.size w wr) (fun i _ => n - (intOf i).toNat)
    case atStart => exact ⟨0, Nat.zero_le _, rfl, AllTo.zero _ _, Below.refl _ _⟩
    case round =>
      obtain ⟨k, hk, rfl, hall, hbel⟩ := hrel
      have HA := Lib.hid hall
      have HBe := Lib.hid hbel
      clear hall
      by_cases hlt : k < n
      · obtain ⟨x, b, off, he, rfl, hb, c0, c1, c2⟩ := bk_at (h.on hB hbel) hlt
        obtain ⟨y, b', off', he', rfl, hb', d0, d1, d2⟩ := bk_at (h'.on hB hbel) hlt
        have hi0 : (0 : Int) ≤ k := by omega
        have hi1 : (k : Int) < n := by omega
        have HR := Lib.hid (rowSame_at he he')
        clear he he' h h' hbel
        rcases hb1 : (x.day == y.day) with _ | _
        · have HO := Lib.hid (show sameBks l l' = false by simp only [sameBks, all_bad (range_at' (show k < l.length by have := hl.out; omega)) (HR.out.trans (by simp [sameBk, hb1])), Bool.and_false])
          go_wp2_with fail
          go_quiet (fail)
          go_wp2
          go_ret
          exact ⟨ret_bool HO.out.symm, below_drewN HBe.out _⟩
        · rcases hb2 : (x.client.toList == y.client.toList) with _ | _
          · have HO := Lib.hid (show sameBks l l' = false by simp only [sameBks, all_bad (range_at' (show k < l.length by have := hl.out; omega)) (HR.out.trans (by simp [sameBk, hb1, hb2])), Bool.and_false])
            go_wp2_with fail
            go_quiet (fail)
            go_wp2
            go_ret
            exact ⟨ret_bool HO.out.symm, below_drewN HBe.out _⟩
          · rcases hb3 : (x.amount == y.amount) with _ | _
            · have HO := Lib.hid (show sameBks l l' = false by simp only [sameBks, all_bad (range_at' (show k < l.length by have := hl.out; omega)) (HR.out.trans (by simp [sameBk, hb1, hb2, hb3])), Bool.and_false])
              go_wp2_with fail
              go_quiet (fail)
              go_wp2
              go_ret
              exact ⟨ret_bool HO.out.symm, below_drewN HBe.out _⟩
            · have HT := Lib.hid (HR.out.trans (show sameBk x y = true by simp [sameBk, hb1, hb2, hb3]))
              go_wp2_with fail
              go_quiet (fail)
              go_wp2
              go_roundw
              case rel => exact ⟨k + 1, by omega, by go_num, HA.out.step (range_at' hlt) HT.out, below_drewN HBe.out _⟩
              case measure => simp [intOf]; omega
      · obtain rfl : k = n := by omega
        have HO := Lib.hid (show sameBks l l' = true by simp only [sameBks, hl.out, hl'.out, HA.out.done (by simp)]; simp)
        go_wp2
        go_ret
        exact ⟨ret_bool HO.out.symm, hbel⟩
  · have HO := Lib.hid (show sameBks l l' = false by simp [sameBks, hl.out, hl'.out, hnn])
    have hne : ((n : Int) != (n' : Int)) = true := by rw [bne_iff_ne]; omega
    clear hnn
    go_enter Try.func30, Try.ntmps30
    go_wp2
    go_ret
    exact ⟨ret_bool HO.out.symm, Below.refl _ _⟩

set_option maxHeartbeats 2000000 in
theorem eqBkS_any (A : Option Addr) (n c : Nat) (l : List Bk) (A' : Option Addr) (n' c' : Nat) (l' : List Bk) (B : Nat) (w : World) (h : Reads w B 3 A n (bks l)) (h' : Reads w B 3 A' n' (bks l')) (hB : B ≤ w.heap.size) (hn : n ≤ 1048576) (hn' : n' ≤ 1048576) :
    Calls Try.prog 70 #[.slice A n c, .slice A' n' c'] w fun e w' => e = .returned (.bool (sameBks l l')) ∧ Below w.heap.size w w' := by
  have hl := Lib.hid (bks_len h)
  have hl' := Lib.hid (bks_len h')
  by_cases hnn : n = n'
  · subst hnn
    go_enter Try.func70, Try.ntmps70
    go_wp2
    go_loopw [13] (fun i wr => ∃ k : Nat, k ≤ n ∧ i = .int .i64 k ∧ AllTo (rowSame l l') (List.range n) k ∧ Below w.heap.size w wr) (fun i _ => n - (intOf i).toNat)
    case atStart => exact ⟨0, Nat.zero_le _, rfl, AllTo.zero _ _, Below.refl _ _⟩
    case round =>
      obtain ⟨k, hk, rfl, hall, hbel⟩ := hrel
      have HA := Lib.hid hall
      have HBe := Lib.hid hbel
      clear hall
      by_cases hlt : k < n
      · obtain ⟨x, b, off, he, rfl, hb, c0, c1, c2⟩ := bk_at (h.on hB hbel) hlt
        obtain ⟨y, b', off', he', rfl, hb', d0, d1, d2⟩ := bk_at (h'.on hB hbel) hlt
        have hi0 : (0 : Int) ≤ k := by omega
        have hi1 : (k : Int) < n := by omega
        have HR := Lib.hid (rowSame_at he he')
        clear he he' h h' hbel
        rcases hb1 : (x.day == y.day) with _ | _
        · have HO := Lib.hid (show sameBks l l' = false by simp only [sameBks, all_bad (range_at' (show k < l.length by have := hl.out; omega)) (HR.out.trans (by simp [sameBk, hb1])), Bool.and_false])
          go_wp2_with fail
          go_quiet (fail)
          go_wp2
          go_ret
          exact ⟨ret_bool HO.out.symm, below_drewN HBe.out _⟩
        · rcases hb2 : (x.client.toList == y.client.toList) with _ | _
          · have HO := Lib.hid (show sameBks l l' = false by simp only [sameBks, all_bad (range_at' (show k < l.length by have := hl.out; omega)) (HR.out.trans (by simp [sameBk, hb1, hb2])), Bool.and_false])
            go_wp2_with fail
            go_quiet (fail)
            go_wp2
            go_ret
            exact ⟨ret_bool HO.out.symm, below_drewN HBe.out _⟩
          · rcases hb3 : (x.amount == y.amount) with _ | _
            · have HO := Lib.hid (show sameBks l l' = false by simp only [sameBks, all_bad (range_at' (show k < l.length by have := hl.out; omega)) (HR.out.trans (by simp [sameBk, hb1, hb2, hb3])), Bool.and_false])
              go_wp2_with fail
              go_quiet (fail)
              go_wp2
              go_ret
              exact ⟨ret_bool HO.out.symm, below_drewN HBe.out _⟩
            · have HT := Lib.hid (HR.out.trans (show sameBk x y = true by simp [sameBk, hb1, hb2, hb3]))
              go_wp2_with fail
              go_quiet (fail)
              go_wp2
              go_roundw
              case rel => exact ⟨k + 1, by omega, by go_num, HA.out.step (range_at' hlt) HT.out, below_drewN HBe.out _⟩
              case measure => simp [intOf]; omega
      · obtain rfl : k = n := by omega
        have HO := Lib.hid (show sameBks l l' = true by simp only [sameBks, hl.out, hl'.out, HA.out.done (by simp)]; simp)
        go_wp2
        go_ret
        exact ⟨ret_bool HO.out.symm, hbel⟩
  · have HO := Lib.hid (show sameBks l l' = false by simp [sameBks, hl.out, hl'.out, hnn])
    have hne : ((n : Int) != (n' : Int)) = true := by rw [bne_iff_ne]; omega
    clear hnn
    go_enter Try.func70, Try.ntmps70
    go_wp2
    go_ret
    exact ⟨ret_bool HO.out.symm, Below.refl _ _⟩

theorem implSameBookings_any (A : Option Addr) (n c : Nat) (l : List Bk) (A' : Option Addr) (n' c' : Nat) (l' : List Bk) (B : Nat) (w : World) (h : Reads w B 3 A n (bks l)) (h' : Reads w B 3 A' n' (bks l')) (hB : B ≤ w.heap.size) (hn : n ≤ 1048576) (hs : ∀ x ∈ l, x.small) (hn' : n' ≤ 1048576) (hs' : ∀ x ∈ l', x.small) :
    Calls Try.prog 32 #[.slice A n c, .slice A' n' c'] w fun e w' => e = .returned (.bool (sameBks l l')) ∧ Below w.heap.size w w' := by
  go_enter Try.func32, Try.ntmps32
  go_wp2_with fail
  refine (eqBkS_any A n c l A' n' c' l' B _ h h' hB hn hn').mono ?_
  rintro e w1 ⟨rfl, b1⟩
  go_wp2
  go_ret
  exact ⟨rfl, b1⟩
end Go.Proofs.Ytpcdpmbmibimlaa
