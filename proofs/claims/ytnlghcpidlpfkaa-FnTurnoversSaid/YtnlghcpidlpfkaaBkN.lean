/- Bookings: interest on what a client owes. -/
import Derived.Test.YtnlghcpidlpfkaaBkJ
import Derived.Test.YtnlghcpidlpfkaaFrac
import Derived.Test.YtnlghcpidlpfkaaMax
set_option linter.unusedVariables false
namespace Go.Proofs.Ytnlghcpidlpfkaa
open Go.RowKit

def isum (f : Int → Int) (a : Int) : Nat → Int
  | 0 => 0
  | k + 1 => isum f a k + pos0 (f (a + (k : Int)))
theorem isum_bd {f : Int → Int} (h : ∀ d, f d ≤ 80000000000) (a : Int) (k : Nat) : 0 ≤ isum f a k ∧ isum f a k ≤ 80000000000 * (k : Int) := by
  induction k with
  | zero => simp [isum]
  | succ k ih => have := pos0_bd (h (a + (k : Int))); simp only [isum]; omega
def intCode (l : List Bk) (s : ByteArray) (a b r : Int) : Int := if codeS l s 0 = 0 then (if ((inR a 0 20000 && inR b a 20000) && inR r 0 1000) = true then 0 else 2) else codeS l s 0
def interest (l : List Bk) (s : ByteArray) (a b r : Int) : (Int × Int) × Int := if intCode l s a b r = 0 then (lowF (isum (bal l s) a (b - a).toNat * r).toNat 360000, 0) else ((0, 0), intCode l s a b r)
theorem interest_bad {l : List Bk} {s : ByteArray} {a b r q : Int} (h : intCode l s a b r = q) (hq : q ≠ 0) : interest l s a b r = ((0, 0), q) := by subst h; simp only [interest, hq, if_false]
theorem interest_ok {l : List Bk} {s : ByteArray} {a b r : Int} {S R m : Nat} (h : intCode l s a b r = 0) (hm : (b - a).toNat = m) (hS : isum (bal l s) a m = S) (hR : r = R) : interest l s a b r = (lowF (S * R) 360000, 0) := by
  subst hR
  simp only [interest, h, if_true, hm, hS]
  rw [show ((S : Int) * (R : Int)).toNat = S * R from by rw [← Int.natCast_mul]; exact Int.toNat_natCast _]
theorem codeI_codeS {l : List Bk} {s : ByteArray} {a b : Int} : codeI l s a b = if codeS l s 0 = 0 then (if (inR a 0 20000 && inR b a 20000) = true then 0 else 2) else codeS l s 0 := by
  have h0 : inR 0 0 20000 = true := by decide
  simp only [codeI, codeS, h0, Bool.and_true]
  rcases okBks l with _ | _
  · simp
  · rcases isName s with _ | _
    · simp
    · rcases inR a 0 20000 with _ | _ <;> rcases inR b a 20000 with _ | _ <;> simp

set_option maxHeartbeats 2000000 in
theorem specInterestOn_any (A : Option Addr) (n c : Nat) (l : List Bk) (s : ByteArray) (a b r : Int) (B : Nat) (w : World) (h : Reads w B 3 A n (bks l)) (hB : B ≤ w.heap.size) (hn : n ≤ 1048576) (hsm : ∀ x ∈ l, x.small) (hs : s.size ≤ 1048576) (ha : I64 a) (hb : I64 b) (hr : I64 r) :
    Calls Try.prog 92 #[.slice A n c, .string s, .int .i64 a, .int .i64 b, .int .i64 r] w fun e w' => e = .returned (.tuple #[.agg #[.int .i64 (interest l s a b r).1.1, .int .i64 (interest l s a b r).1.2], .int .i64 (interest l s a b r).2]) ∧ Below w.heap.size w w' := by
  have h1 : Reads (w.alloc (.cells #[.int .i64 0, .int .i64 0] 97)) B 3 A n (bks l) := h.on hB ((Below.refl _ _).alloc (Nat.le_refl _) _)
  have hB1 : B ≤ (w.alloc (.cells #[.int .i64 0, .int .i64 0] 97)).heap.size := by simp; omega
  have bx := Blk.new w 97 #[.int .i64 0, .int .i64 0]
  by_cases hc : codeS l s 0 = 0
  · rcases hsp : (inR a 0 20000 && inR b a 20000) with _ | _
    · have HO := Lib.hid (interest_bad (show intCode l s a b r = 2 by simp [intCode, hc, hsp]) (by decide))
      go_enter Try.func92, Try.ntmps92
      go_wp2_with fail
      refine (l25Code_any A n c l s 0 B _ h1 hB1 hn hsm (by omega)).mono ?_
      rintro e w1 ⟨rfl, b1⟩
      rw [hc]
      have bx1 := bx.on b1
      have hc0 := bx1.cellAt 0 (by decide)
      have hc1 := bx1.cellAt 1 (by decide)
      have hf0 := bx1.frozen 0
      have hf1 := bx1.frozen 1
      have HB1 := Lib.hid (bnext ((Below.refl w.heap.size w).alloc (Nat.le_refl _) _) b1 (Nat.le_refl _))
      have h2 := h1.on hB1 b1
      have hB2 := Nat.le_trans hB1 b1.size
      clear h h1 bx b1 hsm
      go_wp2_with fail
      refine (l25Span_any _ _ _).mono ?_
      rintro e w2 ⟨rfl, rfl⟩
      rw [hsp]
      clear hsp hc
      go_wp2
      exact bodyPost_ret (v := .tuple #[.agg #[.int .i64 0, .int .i64 0], .int .i64 2]) (by simp [results, Try.results92, go_sem, hc0, hc1]) rfl ⟨by rw [HO.out], (HB1.out.setCell (Nat.le_refl _) _).setCell (Nat.le_refl _) _⟩
    · rcases hrr : inR r 0 1000 with _ | _
      · have HO := Lib.hid (interest_bad (show intCode l s a b r = 2 by simp [intCode, hc, hsp, hrr]) (by decide))
        go_enter Try.func92, Try.ntmps92
        go_wp2_with fail
        refine (l25Code_any A n c l s 0 B _ h1 hB1 hn hsm (by omega)).mono ?_
        rintro e w1 ⟨rfl, b1⟩
        rw [hc]
        have bx1 := bx.on b1
        have hc0 := bx1.cellAt 0 (by decide)
        have hc1 := bx1.cellAt 1 (by decide)
        have hf0 := bx1.frozen 0
        have hf1 := bx1.frozen 1
        have HB1 := Lib.hid (bnext ((Below.refl w.heap.size w).alloc (Nat.le_refl _) _) b1 (Nat.le_refl _))
        have h2 := h1.on hB1 b1
        have hB2 := Nat.le_trans hB1 b1.size
        clear h h1 bx b1 hsm
        go_wp2_with fail
        refine (l25Span_any _ _ _).mono ?_
        rintro e w2 ⟨rfl, rfl⟩
        rw [hsp]
        clear hsp hc
        go_wp2_with fail
        refine (l00In_any _ _ _ _).mono ?_
        rintro e w2 ⟨rfl, rfl⟩
        go_wp2
        exact bodyPost_ret (v := .tuple #[.agg #[.int .i64 0, .int .i64 0], .int .i64 2]) (by simp [results, Try.results92, go_sem, hc0, hc1]) rfl ⟨by rw [HO.out], (HB1.out.setCell (Nat.le_refl _) _).setCell (Nat.le_refl _) _⟩
      · have hic : intCode l s a b r = 0 := by simp [intCode, hc, hsp, hrr]
        have hok := (codeS_zero hc).1
        obtain ⟨R, rfl⟩ := Int.eq_ofNat_of_zero_le (inR_true.1 hrr).1
        have hR := (inR_true.1 hrr).2
        have hA := inR_true.1 (by simp only [Bool.and_eq_true] at hsp; exact hsp.1)
        have hBB := inR_true.1 (by simp only [Bool.and_eq_true] at hsp; exact hsp.2)
        obtain ⟨m, hm⟩ : ∃ m, (b - a).toNat = m := ⟨_, rfl⟩
        have hbd := isum_bd (f := bal l s) (fun d => (bal_bd hok s d).2) a
        have HBD := Lib.hid hbd
        obtain ⟨S, hS⟩ := Int.eq_ofNat_of_zero_le (hbd m).1
        have HO := Lib.hid (interest_ok hic hm hS rfl)
        have HS := Lib.hid hS
        have hSle : (S : Int) ≤ 1600000000000000 := by have := (hbd m).2; omega
        have hbm : b = a + (m : Int) := by omega
        have hm2 : (m : Int) ≤ 20000 := by omega
        have HK := Lib.hid hok
        clear hS hic hm hbd hok
        subst hbm
        rw [HO.out]
        go_enter Try.func92, Try.ntmps92
        go_wp2_with fail
        refine (l25Code_any A n c l s 0 B _ h1 hB1 hn hsm (by omega)).mono ?_
        rintro e w1 ⟨rfl, b1⟩
        rw [hc]
        have bx1 := bx.on b1
        have hc0 := bx1.cellAt 0 (by decide)
        have hc1 := bx1.cellAt 1 (by decide)
        have hf0 := bx1.frozen 0
        have hf1 := bx1.frozen 1
        have HB1 := Lib.hid (bnext ((Below.refl w.heap.size w).alloc (Nat.le_refl _) _) b1 (Nat.le_refl _))
        have h2 := h1.on hB1 b1
        have hB2 := Nat.le_trans hB1 b1.size
        clear h h1 bx b1 hsm
        go_wp2_with fail
        refine (l25Span_any _ _ _).mono ?_
        rintro e w2 ⟨rfl, rfl⟩
        rw [hsp]
        clear hsp hc
        go_wp2_with fail
        refine (l00In_any _ _ _ _).mono ?_
        rintro e w2 ⟨rfl, rfl⟩
        go_wp2
        go_loop [13, 14] (fun p i => ∃ k : Nat, k ≤ m ∧ i = .int .i64 (a + (k : Int)) ∧ p = .int .i64 (isum (bal l s) a k)) (fun _ i => (a + (m : Int) - intOf i).toNat)
        case atStart => exact ⟨0, Nat.zero_le _, by simp, rfl⟩
        case round =>
          obtain ⟨k, hk, rfl, rfl⟩ := hrel
          by_cases hlt : k < m
          · have hlt1 : decide (a + (k : Int) < a + (m : Int)) = true := decide_eq_true (by omega)
            have hp := HBD.out k
            have hq := bal_bd HK.out s (a + (k : Int))
            have HX := Lib.hid (show isum (bal l s) a (k + 1) = isum (bal l s) a k + pos0 (bal l s (a + (k : Int))) from rfl)
            generalize isum (bal l s) a k = p at *
            go_wp2_with fail
            refine (l25Balance_any A n c l s (a + (k : Int)) B _ h2 HK.out ⟨by omega, by omega⟩).mono ?_
            rintro e w2 ⟨rfl, rfl⟩
            generalize bal l s (a + (k : Int)) = q at *
            go_wp2_with fail
            refine (l00Max0_any q _ ⟨by omega, by omega⟩).mono ?_
            rintro e w2 ⟨rfl, rfl⟩
            have hpq := pos0_bd hq.2
            generalize pos0 q = pq at *
            go_wp2
            go_round
            case rel => exact ⟨k + 1, by omega, by congr 1; omega, by rw [HX.out]⟩
            case measure => simp [intOf]; omega
          · obtain rfl : k = m := by omega
            have hlt1 : decide (a + (k : Int) < a + (k : Int)) = false := decide_eq_false (by omega)
            have hSR : 0 ≤ (S : Int) * (R : Int) ∧ (S : Int) * (R : Int) ≤ 1600000000000000000 := by
              refine ⟨Int.mul_nonneg (by omega) (by omega), ?_⟩
              have := Int.mul_le_mul hSle (show (R : Int) ≤ 1000 from hR) (by omega) (by omega)
              omega
            rw [HS.out]
            go_wp2_with fail
            rw [show (S : Int) * (R : Int) = ((S * R : Nat) : Int) from (Int.natCast_mul S R).symm]
            refine (l02Make_any (S * R) 360000 _ (by omega) (by have := Int.natCast_mul S R; omega) (by omega)).mono ?_
            rintro e w2 ⟨rfl, b2⟩
            have bx2 := bx1.on b2
            have hc0 := bx2.cellAt 0 (by decide)
            have hc1 := bx2.cellAt 1 (by decide)
            have hf0 := bx2.frozen 0
            have hf1 := bx2.frozen 1
            have HB2 := Lib.hid (bnext HB1.out b2 (Nat.le_refl _))
            clear bx2 bx1 b2 h2
            go_wp2
            exact bodyPost_ret (v := .tuple #[.agg #[.int .i64 (lowF (S * R) 360000).1, .int .i64 (lowF (S * R) 360000).2], .int .i64 0]) (by simp [results, Try.results92, go_sem, hc0, hc1]) rfl ⟨rfl, (HB2.out.setCell (Nat.le_refl _) _).setCell (Nat.le_refl _) _⟩
  · have HO := Lib.hid (interest_bad (show intCode l s a b r = codeS l s 0 by simp only [intCode, hc, if_false]) hc)
    have hc' : (codeS l s 0 != 0) = true := by simp [hc]
    have hc2 : (codeS l s 0 == 0) = false := by simp [hc]
    clear hc
    go_enter Try.func92, Try.ntmps92
    go_wp2_with fail
    refine (l25Code_any A n c l s 0 B _ h1 hB1 hn hsm (by omega)).mono ?_
    rintro e w1 ⟨rfl, b1⟩
    skip
    have bx1 := bx.on b1
    have hc0 := bx1.cellAt 0 (by decide)
    have hc1 := bx1.cellAt 1 (by decide)
    have hf0 := bx1.frozen 0
    have hf1 := bx1.frozen 1
    have HB1 := Lib.hid (bnext ((Below.refl w.heap.size w).alloc (Nat.le_refl _) _) b1 (Nat.le_refl _))
    have h2 := h1.on hB1 b1
    have hB2 := Nat.le_trans hB1 b1.size
    clear h h1 bx b1 hsm
    go_wp2
    exact bodyPost_ret (v := .tuple #[.agg #[.int .i64 0, .int .i64 0], .int .i64 (codeS l s 0)]) (by simp [results, Try.results92, go_sem, hc0, hc1]) rfl ⟨by rw [HO.out], (HB1.out.setCell (Nat.le_refl _) _).setCell (Nat.le_refl _) _⟩
end Go.Proofs.Ytnlghcpidlpfkaa
