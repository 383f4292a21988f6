/- Bookings: since when a client owes. -/
import Derived.Test.YtbfpadeoalcjeaaBkG
set_option linter.unusedVariables false
namespace Go.Proofs.Ytbfpadeoalcjeaa
open Go.RowKit

def sinceF (f : Int → Int) : Nat → Int
  | 0 => -1
  | d + 1 => if f d ≤ 0 then -1 else if sinceF f d < 0 then (d : Int) else sinceF f d
theorem since_low {f : Int → Int} {d : Nat} (h : f d ≤ 0) : sinceF f (d + 1) = -1 := by simp [sinceF, h]
theorem since_first {f : Int → Int} {d : Nat} (h : 0 < f d) (h2 : sinceF f d < 0) : sinceF f (d + 1) = d := by
  have : ¬ f d ≤ 0 := by omega
  simp [sinceF, this, h2]
theorem since_next {f : Int → Int} {d : Nat} (h : 0 < f d) (h2 : ¬ sinceF f d < 0) : sinceF f (d + 1) = sinceF f d := by
  have : ¬ f d ≤ 0 := by omega
  simp [sinceF, this, h2]
theorem since_pos {f : Int → Int} {d : Nat} (h : 0 < f d) : ¬ sinceF f (d + 1) < 0 := by
  by_cases h2 : sinceF f d < 0
  · rw [since_first h h2]; omega
  · rw [since_next h h2]; exact h2

def owedF (l : List Bk) (s : ByteArray) (d : Int) : Int × Int := if codeS l s d = 0 then (if sinceF (bal l s) (d.toNat + 1) < 0 then (0, 3) else (sinceF (bal l s) (d.toNat + 1), 0)) else (0, codeS l s d)
theorem owedF_none {l : List Bk} {s : ByteArray} {D : Nat} (h : codeS l s D = 0) (h2 : sinceF (bal l s) (D + 1) < 0) : owedF l s D = (0, 3) := by simp [owedF, h, h2]
theorem owedF_some {l : List Bk} {s : ByteArray} {D : Nat} (h : codeS l s D = 0) (h2 : ¬ sinceF (bal l s) (D + 1) < 0) : owedF l s D = (sinceF (bal l s) (D + 1), 0) := by simp [owedF, h, h2]
theorem owedF_bad {l : List Bk} {s : ByteArray} {d : Int} (h : codeS l s d ≠ 0) : owedF l s d = (0, codeS l s d) := by simp [owedF, h]

theorem specOwedSince_any (A : Option Addr) (n c : Nat) (l : List Bk) (s : ByteArray) (d : Int) (B : Nat) (w : World) (h : Reads w B 3 A n (bks l)) (hB : B ≤ w.heap.size) (hn : n ≤ 1048576) (hsm : ∀ x ∈ l, x.small) (hs : s.size ≤ 1048576) (hd : I64 d) :
    Calls Try.prog 34 #[.slice A n c, .string s, .int .i64 d] w fun e w' => e = .returned (.tuple #[.int .i64 (owedF l s d).1, .int .i64 (owedF l s d).2]) ∧ Below w.heap.size w w' := by
  by_cases hc : codeS l s d = 0
  · obtain ⟨h1, h2, h3, h4⟩ := codeS_zero hc
    obtain ⟨D, rfl⟩ := Int.eq_ofNat_of_zero_le h3
    have HN := Lib.hid (owedF_none hc)
    have HP := Lib.hid (owedF_some hc)
    have HK := Lib.hid h1
    clear h1 h2 hd
    go_enter Try.func34, Try.ntmps34
    go_wp2_with fail
    refine (l25Code_any A n c l s D B _ h hB hn hsm (by omega)).mono ?_
    rintro e w1 ⟨rfl, b1⟩
    rw [hc]
    clear hc
    have h' := Lib.hid (h.on hB b1)
    go_wp2
    go_loop [9, 10] (fun q i => ∃ k : Nat, k ≤ D + 1 ∧ i = .int .i64 k ∧ q = .int .i64 (sinceF (bal l s) k)) (fun _ i => D + 1 - (intOf i).toNat)
    case atStart => exact ⟨0, Nat.zero_le _, rfl, rfl⟩
    case round =>
      obtain ⟨k, hk, rfl, rfl⟩ := hrel
      by_cases hlt : k ≤ D
      · have hle : decide ((k : Int) ≤ (D : Int)) = true := decide_eq_true (by omega)
        have HL := Lib.hid (since_low (f := bal l s) (d := k))
        have HF := Lib.hid (since_first (f := bal l s) (d := k))
        have HX := Lib.hid (since_next (f := bal l s) (d := k))
        generalize sinceF (bal l s) k = v at *
        go_wp2_with fail
        refine (l25Balance_any A n c l s k B _ h'.out HK.out ⟨by omega, by omega⟩).mono ?_
        rintro e w2 ⟨rfl, rfl⟩
        generalize bal l s k = q at *
        by_cases hq : q ≤ 0
        · go_wp2
          go_round
          case rel => exact ⟨k + 1, by omega, by go_num, by rw [HL.out hq]⟩
          case measure => simp [intOf]; omega
        · have hq1 : decide (q ≤ 0) = false := decide_eq_false hq
          by_cases hv : v < 0
          · go_wp2
            go_round
            case rel => exact ⟨k + 1, by omega, by go_num, by rw [HF.out (by omega) hv]⟩
            case measure => simp [intOf]; omega
          · have hv1 : decide (v < 0) = false := decide_eq_false hv
            go_wp2
            go_round
            case rel => exact ⟨k + 1, by omega, by go_num, by rw [HX.out (by omega) hv]⟩
            case measure => simp [intOf]; omega
      · obtain rfl : k = D + 1 := by omega
        have hle : decide (((D + 1 : Nat) : Int) ≤ (D : Int)) = false := decide_eq_false (by omega)
        have hle' : decide ((D : Int) + 1 ≤ (D : Int)) = false := decide_eq_false (by omega)
        generalize sinceF (bal l s) (D + 1) = v at *
        by_cases hv : v < 0
        · go_wp2
          go_ret2
          rw [HN.out hv]
          exact ⟨rfl, b1⟩
        · have hv1 : decide (v < 0) = false := decide_eq_false hv
          go_wp2
          go_ret2
          rw [HP.out hv]
          exact ⟨rfl, b1⟩
  · rw [owedF_bad hc]
    have hc' : (codeS l s d != 0) = true := by simp [hc]
    clear hc
    go_enter Try.func34, Try.ntmps34
    go_wp2_with fail
    refine (l25Code_any A n c l s d B _ h hB hn hsm (by omega)).mono ?_
    rintro e w1 ⟨rfl, b1⟩
    go_wp2
    go_ret2
    exact ⟨rfl, b1⟩

theorem implOwedSince_any (A : Option Addr) (n c : Nat) (l : List Bk) (s : ByteArray) (d : Int) (B : Nat) (w : World) (h : Reads w B 3 A n (bks l)) (hB : B ≤ w.heap.size) (hn : n ≤ 1048576) (hsm : ∀ x ∈ l, x.small) (hs : s.size ≤ 1048576) (hd : I64 d) :
    Calls Try.prog 35 #[.slice A n c, .string s, .int .i64 d] w fun e w' => e = .returned (.tuple #[.int .i64 (owedF l s d).1, .int .i64 (owedF l s d).2]) ∧ Below w.heap.size w w' := by
  by_cases hc : codeS l s d = 0
  · obtain ⟨h1, h2, h3, h4⟩ := codeS_zero hc
    obtain ⟨D, rfl⟩ := Int.eq_ofNat_of_zero_le h3
    have HN := Lib.hid (owedF_none hc)
    have HP := Lib.hid (owedF_some hc)
    have HK := Lib.hid h1
    clear h1 h2 hd
    go_enter Try.func35, Try.ntmps35
    go_wp2_with fail
    refine (bookingsCode_any A n c l s D D B _ h hB hn hsm (by omega)).mono ?_
    rintro e w1 ⟨rfl, b1⟩
    rw [codeI_self, hc]
    clear hc
    have z1 := b1.size
    go_wp2_with fail
    refine (balanceOn_any A n c l s D B _ (h.on hB b1) (by omega) HK.out ⟨by omega, by omega⟩).mono ?_
    rintro e w2 ⟨rfl, b2⟩
    have z2 := b2.size
    have H2 := Lib.hid (bnext b1 b2 (Nat.le_refl _))
    clear b1 b2
    by_cases hq : bal l s D ≤ 0
    · have hv : sinceF (bal l s) (D + 1) < 0 := by rw [since_low hq]; omega
      have HV := Lib.hid (HN.out hv)
      clear hv
      go_wp2
      go_ret2
      rw [HV.out]
      exact ⟨rfl, H2.out⟩
    · have hq1 : decide (bal l s D ≤ 0) = false := decide_eq_false hq
      have hv := since_pos (f := bal l s) (d := D) (by omega)
      have HV := Lib.hid (HP.out (by omega))
      have hv0 := Lib.hid hv
      have HQ := Lib.hid (show 0 < bal l s D by omega)
      clear hv hq
      go_wp2
      clear hq1
      go_loopw [2] (fun i wr => ∃ k : Nat, k ≤ D ∧ i = .int .i64 k ∧ 0 < bal l s k ∧ sinceF (bal l s) (k + 1) = sinceF (bal l s) (D + 1) ∧ Below w.heap.size w wr) (fun i _ => (intOf i).toNat)
      case atStart => exact ⟨D, Nat.le_refl _, rfl, HQ.out, rfl, H2.out⟩
      case round =>
        obtain ⟨k, hk, rfl, hp, hsv, hbel⟩ := hrel
        have HP2 := Lib.hid hp
        have HSV := Lib.hid hsv
        have HBe := Lib.hid hbel
        clear hp hsv
        rcases k with _ | j
        · have HR := Lib.hid (show (owedF l s D) = (0, 0) by rw [HV.out, ← HSV.out, since_first HP2.out (by simp [sinceF])]; rfl)
          go_wp2
          go_ret2
          rw [HR.out]
          exact ⟨rfl, hbel⟩
        · have hz := hbel.size
          have hj0 : decide ((0 : Int) < ((j + 1 : Nat) : Int)) = true := decide_eq_true (by omega)
          have hj1 : decide ((0 : Int) < (j : Int) + 1) = true := decide_eq_true (by omega)
          go_wp2_with fail
          refine (balanceOn_any A n c l s j B _ (h.on hB hbel) (by omega) HK.out ⟨by omega, by omega⟩).mono ?_
          rintro e w3 ⟨rfl, b3⟩
          have H3 := Lib.hid (bnext hbel b3 (Nat.le_refl _))
          clear b3 hbel
          by_cases hq : 0 < bal l s j
          · go_wp2
            go_roundw
            case rel => exact ⟨j, by omega, by go_num, hq, by rw [← HSV.out, since_next HP2.out (since_pos hq)], H3.out⟩
            case measure => simp [intOf]
          · have hq1 : decide (0 < bal l s j) = false := decide_eq_false hq
            have HR := Lib.hid (show (owedF l s D) = (((j + 1 : Nat) : Int), 0) by rw [HV.out, ← HSV.out, since_first HP2.out (by rw [since_low (by omega)]; omega)])
            clear hq
            go_wp2
            go_ret2
            rw [HR.out]
            exact ⟨rfl, H3.out⟩
  · rw [owedF_bad hc]
    have hc' : (codeS l s d != 0) = true := by simp [hc]
    clear hc
    go_enter Try.func35, Try.ntmps35
    go_wp2_with fail
    refine (bookingsCode_any A n c l s d d B _ h hB hn hsm (by omega)).mono ?_
    rintro e w1 ⟨rfl, b1⟩
    rw [codeI_self]
    go_wp2
    go_ret2
    exact ⟨rfl, b1⟩
end Go.Proofs.Ytbfpadeoalcjeaa
