/- Bookings: a balance on a day. -/
import Derived.Test.YtbfpadeoalcjeaaBkG
set_option linter.unusedVariables false
namespace Go.Proofs.Ytbfpadeoalcjeaa
open Go.RowKit

def balOn (l : List Bk) (s : ByteArray) (d : Int) : Int × Int := if codeS l s d = 0 then (bal l s d, 0) else (0, codeS l s d)
theorem balOn_ok {l : List Bk} {s : ByteArray} {d : Int} (h : codeS l s d = 0) : balOn l s d = (bal l s d, 0) := by simp [balOn, h]
theorem balOn_bad {l : List Bk} {s : ByteArray} {d : Int} (h : codeS l s d ≠ 0) : balOn l s d = (0, codeS l s d) := by simp [balOn, h]

theorem specBalanceOn_any (A : Option Addr) (n c : Nat) (l : List Bk) (s : ByteArray) (d : Int) (B : Nat) (w : World) (h : Reads w B 3 A n (bks l)) (hB : B ≤ w.heap.size) (hn : n ≤ 1048576) (hsm : ∀ x ∈ l, x.small) (hs : s.size ≤ 1048576) (hd : I64 d) :
    Calls Try.prog 30 #[.slice A n c, .string s, .int .i64 d] w fun e w' => e = .returned (.tuple #[.int .i64 (balOn l s d).1, .int .i64 (balOn l s d).2]) ∧ Below w.heap.size w w' := by
  by_cases hc : codeS l s d = 0
  · obtain ⟨h1, h2, h3, h4⟩ := codeS_zero hc
    rw [balOn_ok hc]
    go_enter Try.func30, Try.ntmps30
    go_wp2_with fail
    refine (l25Code_any A n c l s d B _ h hB hn hsm (by omega)).mono ?_
    rintro e w1 ⟨rfl, b1⟩
    rw [hc]
    clear hc
    go_wp2_with fail
    refine (l25Balance_any A n c l s d B _ (h.on hB b1) h1 hd).mono ?_
    rintro e w2 ⟨rfl, rfl⟩
    have b2 := b1
    go_wp2
    go_ret2
    exact ⟨rfl, b2⟩
  · rw [balOn_bad hc]
    have hc' : (codeS l s d != 0) = true := by simp [hc]
    clear hc
    go_enter Try.func30, Try.ntmps30
    go_wp2_with fail
    refine (l25Code_any A n c l s d B _ h hB hn hsm (by omega)).mono ?_
    rintro e w1 ⟨rfl, b1⟩
    skip
    go_wp2
    go_ret2
    exact ⟨rfl, b1⟩

theorem implBalanceOn_any (A : Option Addr) (n c : Nat) (l : List Bk) (s : ByteArray) (d : Int) (B : Nat) (w : World) (h : Reads w B 3 A n (bks l)) (hB : B ≤ w.heap.size) (hn : n ≤ 1048576) (hsm : ∀ x ∈ l, x.small) (hs : s.size ≤ 1048576) (hd : I64 d) :
    Calls Try.prog 31 #[.slice A n c, .string s, .int .i64 d] w fun e w' => e = .returned (.tuple #[.int .i64 (balOn l s d).1, .int .i64 (balOn l s d).2]) ∧ Below w.heap.size w w' := by
  by_cases hc : codeS l s d = 0
  · obtain ⟨h1, h2, h3, h4⟩ := codeS_zero hc
    rw [balOn_ok hc]
    go_enter Try.func31, Try.ntmps31
    go_wp2_with fail
    refine (bookingsCode_any A n c l s d d B _ h hB hn hsm (by omega)).mono ?_
    rintro e w1 ⟨rfl, b1⟩
    rw [codeI_self, hc]
    clear hc
    go_wp2_with fail
    refine (balanceOn_any A n c l s d B _ (h.on hB b1) (Nat.le_trans hB b1.size) h1 hd).mono ?_
    rintro e w2 ⟨rfl, b2⟩
    replace b2 := bnext b1 b2 (Nat.le_refl _)
    go_wp2
    go_ret2
    exact ⟨rfl, b2⟩
  · rw [balOn_bad hc]
    have hc' : (codeS l s d != 0) = true := by simp [hc]
    clear hc
    go_enter Try.func31, Try.ntmps31
    go_wp2_with fail
    refine (bookingsCode_any A n c l s d d B _ h hB hn hsm (by omega)).mono ?_
    rintro e w1 ⟨rfl, b1⟩
    rw [codeI_self]
    go_wp2
    go_ret2
    exact ⟨rfl, b1⟩
end Go.Proofs.Ytbfpadeoalcjeaa
