/- Bookings: interest on what a client owes, as the program reckons it. -/
import Derived.Test.YtnlghcpidlpfkaaBkN
set_option linter.unusedVariables false
namespace Go.Proofs.Ytnlghcpidlpfkaa
open Go.RowKit

set_option maxHeartbeats 2000000 in
theorem implInterestOn_any (A : Option Addr) (n c : Nat) (l : List Bk) (s : ByteArray) (a b r : Int) (B : Nat) (w : World) (h : Reads w B 3 A n (bks l)) (hB : B ≤ w.heap.size) (hn : n ≤ 1048576) (hsm : ∀ x ∈ l, x.small) (hs : s.size ≤ 1048576) (ha : I64 a) (hb : I64 b) (hr : I64 r) :
    Calls Try.prog 91 #[.slice A n c, .string s, .int .i64 a, .int .i64 b, .int .i64 r] w fun e w' => e = .returned (.tuple #[.agg #[.int .i64 (interest l s a b r).1.1, .int .i64 (interest l s a b r).1.2], .int .i64 (interest l s a b r).2]) ∧ Below w.heap.size w w' := by
  have h1 : Reads (w.alloc (.cells #[.int .i64 0, .int .i64 0] 97)) B 3 A n (bks l) := h.on hB ((Below.refl _ _).alloc (Nat.le_refl _) _)
  have hB1 : B ≤ (w.alloc (.cells #[.int .i64 0, .int .i64 0] 97)).heap.size := by simp; omega
  have bx := Blk.new w 97 #[.int .i64 0, .int .i64 0]
  by_cases hc : codeI l s a b = 0
  · have hc0' : codeS l s 0 = 0 := by
      by_cases h : codeS l s 0 = 0
      · exact h
      · rw [codeI_codeS, if_neg h] at hc; exact hc
    have hsp : (inR a 0 20000 && inR b a 20000) = true := by
      rcases h : (inR a 0 20000 && inR b a 20000) with _ | _
      · rw [codeI_codeS, if_pos hc0', h] at hc; simp at hc
      · rfl
    rcases hrr : inR r 0 1000 with _ | _
    · have HO := Lib.hid (interest_bad (show intCode l s a b r = 2 by simp [intCode, hc0', hsp, hrr]) (by decide))
      clear hc0' hsp
      go_enter Try.func91, Try.ntmps91
      go_wp2_with fail
      refine (bookingsCode_any A n c l s a _ B _ h1 hB1 hn hsm (by omega)).mono ?_
      rintro e w1 ⟨rfl, b1⟩
      rw [hc]
      have bx1 := bx.on b1
      have hc0 := bx1.cellAt 0 (by decide)
      have hc1 := bx1.cellAt 1 (by decide)
      have hf0 := bx1.frozen 0
      have hf1 := bx1.frozen 1
      have HB1 := Lib.hid (bnext ((Below.refl w.heap.size w).alloc (Nat.le_refl _) _) b1 (Nat.le_refl _))
      have h2 := h1.on hB1 b1
      have hB2 := Nat.le_trans hB1 b1.size
      clear h h1 bx b1 hsm
      clear hc
      go_wp2_with fail
      refine (within_any _ _ _ _).mono ?_
      rintro e w2 ⟨rfl, rfl⟩
      go_wp2
      exact bodyPost_ret (v := .tuple #[.agg #[.int .i64 0, .int .i64 0], .int .i64 2]) (by simp [results, Try.results91, go_sem, hc0, hc1]) rfl ⟨by rw [HO.out], (HB1.out.setCell (Nat.le_refl _) _).setCell (Nat.le_refl _) _⟩
    · have hic : intCode l s a b r = 0 := by simp [intCode, hc0', hsp, hrr]
      have hok := (codeS_zero hc0').1
      obtain ⟨R, rfl⟩ := Int.eq_ofNat_of_zero_le (inR_true.1 hrr).1
      have hR := (inR_true.1 hrr).2
      have hA := inR_true.1 (by simp only [Bool.and_eq_true] at hsp; exact hsp.1)
      have hBB := inR_true.1 (by simp only [Bool.and_eq_true] at hsp; exact hsp.2)
      obtain ⟨m, hm⟩ : ∃ m, (b - a).toNat = m := ⟨_, rfl⟩
      have hbd := isum_bd (f := bal l s) (fun d => (bal_bd hok s d).2) a
      have HBD := Lib.hid hbd
      obtain ⟨S, hS⟩ := Int.eq_ofNat_of_zero_le (hbd m).1
      have HO := Lib.hid (interest_ok hic hm hS rfl)
      have HS := Lib.hid hS
      have hSle : (S : Int) ≤ 1600000000000000 := by have := (hbd m).2; omega
      have hbm : b = a + (m : Int) := by omega
      have hm2 : (m : Int) ≤ 20000 := by omega
      have HK := Lib.hid hok
      clear hS hic hm hbd hok hc0' hsp
      subst hbm
      rw [HO.out]
      go_enter Try.func91, Try.ntmps91
      go_wp2_with fail
      refine (bookingsCode_any A n c l s a _ B _ h1 hB1 hn hsm (by omega)).mono ?_
      rintro e w1 ⟨rfl, b1⟩
      rw [hc]
      have bx1 := bx.on b1
      have hc0 := bx1.cellAt 0 (by decide)
      have hc1 := bx1.cellAt 1 (by decide)
      have hf0 := bx1.frozen 0
      have hf1 := bx1.frozen 1
      have HB1 := Lib.hid (bnext ((Below.refl w.heap.size w).alloc (Nat.le_refl _) _) b1 (Nat.le_refl _))
      have h2 := h1.on hB1 b1
      have hB2 := Nat.le_trans hB1 b1.size
      clear h h1 bx b1 hsm
      clear hc
      go_wp2_with fail
      refine (within_any _ _ _ _).mono ?_
      rintro e w2 ⟨rfl, rfl⟩
      clear hc0 hc1 hf0 hf1
      go_wp2
      go_loopw [13, 14] (fun p i wr => ∃ k : Nat, k ≤ m ∧ i = .int .i64 (a + (k : Int)) ∧ p = .int .i64 (isum (bal l s) a k) ∧ Below w1.heap.size w1 wr) (fun _ i _ => (a + (m : Int) - intOf i).toNat)
      case atStart => exact ⟨0, Nat.zero_le _, by simp, rfl, Below.refl _ _⟩
      case round =>
        obtain ⟨k, hk, rfl, rfl, hbel⟩ := hrel
        have HBe := Lib.hid hbel
        have hz := hbel.size
        by_cases hlt : k < m
        · have hlt1 : decide (a + (k : Int) < a + (m : Int)) = true := decide_eq_true (by omega)
          have hp := HBD.out k
          have hq := bal_bd HK.out s (a + (k : Int))
          have HX := Lib.hid (show isum (bal l s) a (k + 1) = isum (bal l s) a k + pos0 (bal l s (a + (k : Int))) from rfl)
          generalize isum (bal l s) a k = p at *
          go_wp2_with fail
          refine (balanceOn_any A n c l s (a + (k : Int)) B _ (h2.on hB2 HBe.out) (by omega) HK.out ⟨by omega, by omega⟩).mono ?_
          rintro e w2 ⟨rfl, b2⟩
          have HB3 := Lib.hid (bnext HBe.out b2 (Nat.le_refl _))
          clear b2 hbel
          generalize bal l s (a + (k : Int)) = q at *
          have hpq := pos0_bd hq.2
          by_cases hq0 : q < 0
          · have hp0 : pos0 q = 0 := by unfold pos0; split <;> omega
            rw [hp0] at HX
            clear hp0 hpq
            go_wp2
            go_roundw
            case rel => exact ⟨k + 1, by omega, by congr 1; omega, by rw [HX.out]; try (congr 1 <;> first | rfl | omega), HB3.out⟩
            case measure => simp [intOf]; omega
          · have hp0 : pos0 q = q := by unfold pos0; split <;> omega
            rw [hp0] at HX
            clear hp0 hpq
            have hq1 : decide (q < 0) = false := decide_eq_false hq0
            go_wp2
            go_roundw
            case rel => exact ⟨k + 1, by omega, by congr 1; omega, by rw [HX.out]; try (congr 1 <;> first | rfl | omega), HB3.out⟩
            case measure => simp [intOf]; omega
        · obtain rfl : k = m := by omega
          have hlt1 : decide (a + (k : Int) < a + (k : Int)) = false := decide_eq_false (by omega)
          have hSR : 0 ≤ (S : Int) * (R : Int) ∧ (S : Int) * (R : Int) ≤ 1600000000000000000 := by
            refine ⟨Int.mul_nonneg (by omega) (by omega), ?_⟩
            have := Int.mul_le_mul hSle (show (R : Int) ≤ 1000 from hR) (by omega) (by omega)
            omega
          rw [HS.out]
          go_wp2_with fail
          rw [show (S : Int) * (R : Int) = ((S * R : Nat) : Int) from (Int.natCast_mul S R).symm]
          refine (lowest_any (S * R) 360000 _ (by omega) (by have := Int.natCast_mul S R; omega) (by omega)).mono ?_
          rintro e w2 ⟨rfl, b2⟩
          have bx2 := (bx1.on HBe.out).on b2
          have hc0 := bx2.cellAt 0 (by decide)
          have hc1 := bx2.cellAt 1 (by decide)
          have hf0 := bx2.frozen 0
          have hf1 := bx2.frozen 1
          have HB2 := Lib.hid (bnext (bnext HB1.out HBe.out (Nat.le_refl _)) b2 (Nat.le_refl _))
          clear bx2 bx1 b2 h2 hbel
          go_wp2
          exact bodyPost_ret (v := .tuple #[.agg #[.int .i64 (lowF (S * R) 360000).1, .int .i64 (lowF (S * R) 360000).2], .int .i64 0]) (by simp [results, Try.results91, go_sem, hc0, hc1]) rfl ⟨rfl, (HB2.out.setCell (Nat.le_refl _) _).setCell (Nat.le_refl _) _⟩
  · have hbad : intCode l s a b r = codeI l s a b := by
      rw [codeI_codeS] at hc ⊢
      by_cases h : codeS l s 0 = 0
      · simp only [h, if_true] at hc
        rcases h2 : (inR a 0 20000 && inR b a 20000) with _ | _
        · simp only [intCode, h, h2, if_true, Bool.false_and, Bool.false_eq_true, if_false]
        · rw [h2] at hc; simp at hc
      · simp only [intCode, h, if_false]
    have HO := Lib.hid (interest_bad hbad hc)
    have hc' : (codeI l s a b != 0) = true := by simp [hc]
    have hc2 : (codeI l s a b == 0) = false := by simp [hc]
    clear hc hbad
    go_enter Try.func91, Try.ntmps91
    go_wp2_with fail
    refine (bookingsCode_any A n c l s a _ B _ h1 hB1 hn hsm (by omega)).mono ?_
    rintro e w1 ⟨rfl, b1⟩
    skip
    have bx1 := bx.on b1
    have hc0 := bx1.cellAt 0 (by decide)
    have hc1 := bx1.cellAt 1 (by decide)
    have hf0 := bx1.frozen 0
    have hf1 := bx1.frozen 1
    have HB1 := Lib.hid (bnext ((Below.refl w.heap.size w).alloc (Nat.le_refl _) _) b1 (Nat.le_refl _))
    have h2 := h1.on hB1 b1
    have hB2 := Nat.le_trans hB1 b1.size
    clear h h1 bx b1 hsm
    go_wp2
    exact bodyPost_ret (v := .tuple #[.agg #[.int .i64 0, .int .i64 0], .int .i64 (codeI l s a b)]) (by simp [results, Try.results91, go_sem, hc0, hc1]) rfl ⟨by rw [HO.out], (HB1.out.setCell (Nat.le_refl _) _).setCell (Nat.le_refl _) _⟩
end Go.Proofs.Ytnlghcpidlpfkaa
