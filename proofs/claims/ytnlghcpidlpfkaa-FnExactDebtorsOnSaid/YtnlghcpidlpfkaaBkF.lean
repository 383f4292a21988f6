/- Bookings: sums over a list, codes, balances. -/
import Derived.Test.YtnlghcpidlpfkaaBkC
set_option linter.unusedVariables false
namespace Go.Proofs.Ytnlghcpidlpfkaa
open Go.RowKit

/-! ### Sums over a list -/
def bsum (f : Bk → Int) (l : List Bk) : Nat → Int
  | 0 => 0
  | k + 1 => bsum f l k + (match l[k]? with | none => 0 | some x => f x)
theorem bsum_step {f : Bk → Int} {l : List Bk} {k : Nat} {x : Bk} (h : l[k]? = some x) : bsum f l (k + 1) = bsum f l k + f x := by simp [bsum, h]
theorem bsum_bd {f : Bk → Int} {l : List Bk} (h : ∀ x ∈ l, -1000000000 ≤ f x ∧ f x ≤ 1000000000) (k : Nat) : -(1000000000 * (k : Int)) ≤ bsum f l k ∧ bsum f l k ≤ 1000000000 * (k : Int) := by
  induction k with
  | zero => simp [bsum]
  | succ k ih =>
    rcases hx : l[k]? with _ | z
    · simp only [bsum, hx]; omega
    · simp only [bsum, hx]; have := h z (List.mem_of_getElem? hx); omega
theorem bsum_bd0 {f : Bk → Int} {l : List Bk} (h : ∀ x ∈ l, 0 ≤ f x ∧ f x ≤ 1000000000) (k : Nat) : 0 ≤ bsum f l k ∧ bsum f l k ≤ 1000000000 * (k : Int) := by
  induction k with
  | zero => simp [bsum]
  | succ k ih =>
    rcases hx : l[k]? with _ | z
    · simp only [bsum, hx]; omega
    · simp only [bsum, hx]; have := h z (List.mem_of_getElem? hx); omega
theorem bsum_stop {f : Bk → Int} {l : List Bk} {k : Nat} (h : ∀ (j : Nat) (x : Bk), k ≤ j → l[j]? = some x → f x = 0) : ∀ m, k ≤ m → bsum f l m = bsum f l k := by
  intro m
  induction m with
  | zero =>
    intro hm
    obtain rfl : k = 0 := by omega
    rfl
  | succ m ih =>
    intro hm
    by_cases e : k = m + 1
    · rw [e]
    · rcases hx : l[m]? with _ | z
      · simp only [bsum, hx, ih (by omega)]; omega
      · simp only [bsum, hx, ih (by omega), h m z (by omega) hx]; omega

/-! ### What a right list is -/
theorem okBks_len {l : List Bk} (h : okBks l = true) : l.length ≤ 80 := by
  simp only [okBks, Bool.and_eq_true, decide_eq_true_eq] at h
  exact h.2
theorem okBks_row {l : List Bk} (h : okBks l = true) {i : Nat} (hi : i < l.length) : rowBk l i = true := by
  simp only [okBks, Bool.and_eq_true, List.all_eq_true] at h
  exact h.1 i (by simpa using hi)
theorem okBks_mem {l : List Bk} (h : okBks l = true) : ∀ x ∈ l, (0 ≤ x.day ∧ x.day ≤ 20000) ∧ isName x.client = true ∧ (-1000000000 ≤ x.amount ∧ x.amount ≤ 1000000000) ∧ x.amount ≠ 0 := by
  intro x hx
  obtain ⟨i, hi, rfl⟩ := List.mem_iff_getElem.1 hx
  have := okBks_row h hi
  simp only [rowBk, List.getElem?_eq_getElem hi, Bool.and_eq_true] at this
  exact okBk_iff.1 this.1
theorem okBks_next {l : List Bk} (h : okBks l = true) {i : Nat} {x y : Bk} (hx : l[i]? = some x) (hy : l[i + 1]? = some y) : x.day ≤ y.day := by
  have hi : i + 1 < l.length := (List.getElem?_eq_some_iff.1 hy).1
  have := okBks_row h hi
  simp only [rowBk, hy, Bool.and_eq_true, Bool.or_eq_true, decide_eq_true_eq, Nat.add_sub_cancel, hx] at this
  omega
theorem okBks_sorted {l : List Bk} (h : okBks l = true) {i : Nat} {x : Bk} (hx : l[i]? = some x) : ∀ (d : Nat) (y : Bk), l[i + d]? = some y → x.day ≤ y.day := by
  intro d
  induction d with
  | zero => intro y hy; rw [Nat.add_zero, hx] at hy; injection hy with hy; subst hy; exact Int.le_refl _
  | succ d ih =>
    intro y hy
    have hi : i + d < l.length := by have := (List.getElem?_eq_some_iff.1 hy).1; omega
    exact Int.le_trans (ih _ (List.getElem?_eq_getElem hi)) (okBks_next h (List.getElem?_eq_getElem hi) hy)

/-! ### Balances -/
def balf (s : ByteArray) (d : Int) (x : Bk) : Int := if (x.client.toList == s.toList && decide (x.day ≤ d)) = true then x.amount else 0
def bal (l : List Bk) (s : ByteArray) (d : Int) : Int := bsum (balf s d) l l.length
theorem balf_bd {l : List Bk} (h : okBks l = true) (s : ByteArray) (d : Int) : ∀ x ∈ l, -1000000000 ≤ balf s d x ∧ balf s d x ≤ 1000000000 := by
  intro x hx
  have := (okBks_mem h x hx).2.2.1
  unfold balf
  split <;> omega
theorem bal_bd {l : List Bk} (h : okBks l = true) (s : ByteArray) (d : Int) : -80000000000 ≤ bal l s d ∧ bal l s d ≤ 80000000000 := by
  have h1 := bsum_bd (balf_bd h s d) l.length
  have h2 := okBks_len h
  unfold bal
  omega

theorem l25Balance_any (A : Option Addr) (n c : Nat) (l : List Bk) (s : ByteArray) (d : Int) (B : Nat) (w : World) (h : Reads w B 3 A n (bks l)) (hok : okBks l = true) (hd : I64 d) :
    Calls Try.prog 140 #[.slice A n c, .string s, .int .i64 d] w fun e w' => e = .returned (.int .i64 (bal l s d)) ∧ w = w' := by
  have hl := Lib.hid (bks_len h)
  have hn : n ≤ 80 := by have := okBks_len hok; have := hl.out; omega
  have HK := Lib.hid hok
  clear hok
  go_enter Try.func140, Try.ntmps140
  go_wp2
  go_loop [7, 8] (fun q i => ∃ k : Nat, k ≤ n ∧ i = .int .i64 k ∧ q = .int .i64 (bsum (balf s d) l k)) (fun _ i => n - (intOf i).toNat)
  case atStart => exact ⟨0, Nat.zero_le _, rfl, rfl⟩
  case round =>
    obtain ⟨k, hk, rfl, rfl⟩ := hrel
    by_cases hlt : k < n
    · obtain ⟨x, b, off, he, rfl, hb, c0, c1, c2⟩ := bk_at h hlt
      have hx := (okBks_mem HK.out x (List.mem_of_getElem? he)).2.2.1
      have hxd := (okBks_mem HK.out x (List.mem_of_getElem? he)).1
      have hs := bsum_bd (balf_bd HK.out s d) k
      have HS := Lib.hid (bsum_step (f := balf s d) he)
      have HE := Lib.hid he
      clear he h
      have HZ := Lib.hid (show bal l s d = bsum (balf s d) l l.length from rfl)
      generalize hq : bsum (balf s d) l k = q at *
      have HQ := Lib.hid hq
      clear hq
      by_cases hday : x.day ≤ d
      · rcases hcl : (x.client.toList == s.toList) with _ | _
        · have HF := Lib.hid (show balf s d x = 0 by simp [balf, hcl])
          go_wp2
          go_round
          case rel => exact ⟨k + 1, by omega, by go_num, by rw [HS.out, HF.out, Int.add_zero]⟩
          case measure => simp [intOf]; omega
        · have HF := Lib.hid (show balf s d x = x.amount by simp [balf, hcl, hday])
          go_wp2
          go_round
          case rel => exact ⟨k + 1, by omega, by go_num, by rw [HS.out, HF.out]⟩
          case measure => simp [intOf]; omega
      · have HF := Lib.hid (show bal l s d = q by
          rw [HZ.out, ← HQ.out]
          refine bsum_stop (fun j y hj hy => ?_) _ (by have := hl.out; omega)
          have := okBks_sorted HK.out HE.out (j - k) y (by rwa [show k + (j - k) = j from by omega])
          have hyd : ¬ y.day ≤ d := by omega
          simp [balf, hyd])
        have hday' : decide (x.day ≤ d) = false := decide_eq_false hday
        go_wp2
        go_ret
        exact ⟨ret_int HF.out.symm, rfl⟩
    · obtain rfl : k = n := by omega
      have HF := Lib.hid (show bal l s d = bsum (balf s d) l k by rw [bal, hl.out])
      go_wp2
      go_ret
      exact ⟨ret_int HF.out.symm, rfl⟩

theorem balanceOn_any (A : Option Addr) (n c : Nat) (l : List Bk) (s : ByteArray) (d : Int) (B : Nat) (w : World) (h : Reads w B 3 A n (bks l)) (hB : B ≤ w.heap.size) (hok : okBks l = true) (hd : I64 d) :
    Calls Try.prog 144 #[.slice A n c, .string s, .int .i64 d] w fun e w' => e = .returned (.int .i64 (bal l s d)) ∧ Below w.heap.size w w' := by
  have hl := Lib.hid (bks_len h)
  have hn : n ≤ 80 := by have := okBks_len hok; have := hl.out; omega
  have HK := Lib.hid hok
  clear hok
  go_enter Try.func144, Try.ntmps144
  go_wp2
  go_loopw [7, 12] (fun q i wr => ∃ k : Nat, k ≤ n ∧ i = .int .i64 k ∧ q = .int .i64 (bsum (balf s d) l k) ∧ Below w.heap.size w wr) (fun _ i _ => n - (intOf i).toNat)
  case atStart => exact ⟨0, Nat.zero_le _, rfl, rfl, Below.refl _ _⟩
  case round =>
    obtain ⟨k, hk, rfl, rfl, hbel⟩ := hrel
    have HBe := Lib.hid hbel
    by_cases hlt : k < n
    · obtain ⟨x, b, off, he, rfl, hb, c0, c1, c2⟩ := bk_at (h.on hB hbel) hlt
      have hx := (okBks_mem HK.out x (List.mem_of_getElem? he)).2.2.1
      have hxd := (okBks_mem HK.out x (List.mem_of_getElem? he)).1
      have hs := bsum_bd (balf_bd HK.out s d) k
      have HS := Lib.hid (bsum_step (f := balf s d) he)
      clear he h hbel
      generalize bsum (balf s d) l k = q at *
      rcases hcl : (x.client.toList == s.toList) with _ | _
      · have HF := Lib.hid (show balf s d x = 0 by simp [balf, hcl])
        go_wp2
        go_roundw
        case rel => exact ⟨k + 1, by omega, by go_num, by rw [HS.out, HF.out, Int.add_zero], HBe.out.alloc HBe.out.size _⟩
        case measure => simp [intOf]; omega
      · by_cases hday : x.day ≤ d
        · have HF := Lib.hid (show balf s d x = x.amount by simp [balf, hcl, hday])
          go_wp2
          go_roundw
          case rel => exact ⟨k + 1, by omega, by go_num, by rw [HS.out, HF.out], HBe.out.alloc HBe.out.size _⟩
          case measure => simp [intOf]; omega
        · have HF := Lib.hid (show balf s d x = 0 by simp [balf, hday])
          have hday' : decide (x.day ≤ d) = false := decide_eq_false hday
          go_wp2
          go_roundw
          case rel => exact ⟨k + 1, by omega, by go_num, by rw [HS.out, HF.out, Int.add_zero], HBe.out.alloc HBe.out.size _⟩
          case measure => simp [intOf]; omega
    · obtain rfl : k = n := by omega
      have HF := Lib.hid (show bal l s d = bsum (balf s d) l k by rw [bal, hl.out])
      go_wp2
      go_ret
      exact ⟨ret_int HF.out.symm, hbel⟩
end Go.Proofs.Ytnlghcpidlpfkaa
