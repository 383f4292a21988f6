/- Bookings: the oldest charge that is not paid, as the program finds it. -/
import Derived.Test.YtnlghcpidlpfkaaBkK
set_option linter.unusedVariables false
namespace Go.Proofs.Ytnlghcpidlpfkaa
open Go.RowKit

set_option maxHeartbeats 2000000 in
theorem implOldestUnpaid_any (A : Option Addr) (n c : Nat) (l : List Bk) (s : ByteArray) (B : Nat) (w : World) (h : Reads w B 3 A n (bks l)) (hB : B ≤ w.heap.size) (hn : n ≤ 1048576) (hsm : ∀ x ∈ l, x.small) (hs : s.size ≤ 1048576) :
    Calls Try.prog 94 #[.slice A n c, .string s] w fun e w' => e = .returned (.tuple #[.int .i64 (oldF l s).1, .int .i64 (oldF l s).2.1, .int .i64 (oldF l s).2.2]) ∧ Below w.heap.size w w' := by
  by_cases hc : codeS l s 0 = 0
  · obtain ⟨h1, h2, h3, h4⟩ := codeS_zero hc
    rw [oldF_ok hc]
    have hl := Lib.hid (bks_len h)
    have hn' : n ≤ 80 := by have := okBks_len h1; have := hl.out; omega
    have HK := Lib.hid h1
    rw [hl.out]
    clear h1 h2 h3 h4
    go_enter Try.func94, Try.ntmps94
    go_wp2_with fail
    refine (bookingsCode_any A n c l s 0 0 B _ h hB hn hsm (by omega)).mono ?_
    rintro e w1 ⟨rfl, b1⟩
    rw [codeI_self, hc]
    clear hc hsm
    have H1 := Lib.hid b1
    go_wp2
    clear b1
    go_loopw [8, 21] (fun p i wr => ∃ k : Nat, k ≤ n ∧ i = .int .i64 k ∧ p = .int .i64 (bsum (payf s) l k) ∧ Below w.heap.size w wr) (fun _ i _ => n - (intOf i).toNat)
    case atStart => exact ⟨0, Nat.zero_le _, rfl, rfl, H1.out⟩
    case round =>
      obtain ⟨k, hk, rfl, rfl, hbel⟩ := hrel
      have HBe := Lib.hid hbel
      by_cases hlt : k < n
      · obtain ⟨x, bb, off, he, rfl, hbb, c0, c1, c2⟩ := bk_at (h.on hB hbel) hlt
        have hx := (okBks_mem HK.out x (List.mem_of_getElem? he)).2.2.1
        have hs1 := bsum_bd0 (payf_bd HK.out s) k
        have HS1 := Lib.hid (bsum_step (f := payf s) he)
        clear he h hbel
        generalize bsum (payf s) l k = p at *
        rcases hcl : (x.client.toList == s.toList) with _ | _
        · have HF1 := Lib.hid (show payf s x = 0 by simp [payf, hcl])
          go_wp2
          go_roundw
          case rel => exact ⟨k + 1, by omega, by go_num, by rw [HS1.out, HF1.out, Int.add_zero], HBe.out.alloc HBe.out.size _⟩
          case measure => simp [intOf]; omega
        · by_cases hp : x.amount < 0
          · have HF1 := Lib.hid (show payf s x = -x.amount by simp [payf, hcl, hp])
            have hmx : max (-x.amount) 0 = -x.amount := by omega
            have hmi : decide (-x.amount < 0) = false := decide_eq_false (by omega)
            go_wp2
            go_roundw
            case rel => exact ⟨k + 1, by omega, by go_num, by rw [HS1.out, HF1.out]; try (congr 1 <;> first | rfl | omega | (split <;> omega)), HBe.out.alloc HBe.out.size _⟩
            case measure => simp [intOf]; omega
          · have HF1 := Lib.hid (show payf s x = 0 by simp [payf, hcl, hp])
            have hmx : max (-x.amount) 0 = 0 := by omega
            go_wp2
            go_roundw
            case rel => exact ⟨k + 1, by omega, by go_num, by rw [HS1.out, HF1.out]; try (congr 1 <;> first | rfl | omega | (split <;> omega)), HBe.out.alloc HBe.out.size _⟩
            case measure => simp [intOf]; omega
      · obtain rfl : k = n := by omega
        have hs1 := bsum_bd0 (payf_bd HK.out s) k
        clear hlt
        go_wp2
        go_loopw [8, 38] (fun p i wr => ∃ (j : Nat) (q : Int), j ≤ k ∧ i = .int .i64 j ∧ p = .int .i64 q ∧ 0 ≤ q ∧ q ≤ 1000000000 * (k : Int) ∧ unpaidAt s l 0 (bsum (payf s) l k) = unpaidAt s l j q ∧ Below w.heap.size w wr) (fun _ i _ => k - (intOf i).toNat)
        case atStart => exact ⟨0, _, Nat.zero_le _, rfl, rfl, hs1.1, hs1.2, rfl, HBe.out⟩
        case round =>
          clear hbel HBe
          obtain ⟨j, q, hj, rfl, rfl, hq0, hq1, hun, hbel⟩ := hrel
          have HU := Lib.hid hun
          have HBe := Lib.hid hbel
          clear hun hs1
          by_cases hlt : j < k
          · obtain ⟨x, bb, off, he, rfl, hbb, c0, c1, c2⟩ := bk_at (h.on hB hbel) hlt
            have hx := (okBks_mem HK.out x (List.mem_of_getElem? he)).2.2.1
            have HA := Lib.hid (fun h1 => unpaidAt_other (s := s) q he h1)
            have HC := Lib.hid (fun h1 h2 => unpaidAt_pay (s := s) q he h1 h2)
            have HD := Lib.hid (fun h1 h2 h3 => unpaidAt_here (s := s) q he h1 h2 h3)
            have HE := Lib.hid (fun h1 h2 h3 => unpaidAt_on (s := s) q he h1 h2 h3)
            have hi0 : (0 : Int) ≤ j := by omega
            have hi1 : (j : Int) < k := by omega
            clear he h hbel
            rcases hcl : (x.client.toList == s.toList) with _ | _
            · have hcl' : (x.client.toList != s.toList) = true := by simp [bne, hcl]
              have HR := Lib.hid (HU.out.trans (HA.out hcl))
              go_wp2
              go_roundw
              case rel => exact ⟨j + 1, q, by omega, by go_num, rfl, hq0, hq1, HR.out, HBe.out.alloc HBe.out.size _⟩
              case measure => simp [intOf]; omega
            · have hcl' : (x.client.toList != s.toList) = false := by simp [bne, hcl]
              by_cases hp : x.amount < 0
              · have HR := Lib.hid (HU.out.trans (HC.out hcl hp))
                go_wp2
                go_roundw
                case rel => exact ⟨j + 1, q, by omega, by go_num, rfl, hq0, hq1, HR.out, HBe.out.alloc HBe.out.size _⟩
                case measure => simp [intOf]; omega
              · have hp1 : decide (x.amount < 0) = false := decide_eq_false hp
                by_cases hlow : q < x.amount
                · have HR := Lib.hid (HU.out.trans (HD.out hcl hp hlow))
                  go_wp2
                  go_quiet (fail)
                  go_wp2
                  go_ret3
                  rw [HR.out]
                  exact ⟨rfl, below_drewN (HBe.out.alloc HBe.out.size _) _⟩
                · have hlow1 : decide (q < x.amount) = false := decide_eq_false hlow
                  have HR := Lib.hid (HU.out.trans (HE.out hcl hp hlow))
                  go_wp2
                  go_roundw
                  case rel => exact ⟨j + 1, q - x.amount, by omega, by go_num, rfl, by omega, by omega, HR.out, HBe.out.alloc HBe.out.size _⟩
                  case measure => simp [intOf]; omega
          · obtain rfl : j = k := by omega
            have HR := Lib.hid (HU.out.trans (show unpaidAt s l j q = (0, 0, 3) by rw [← hl.out]; exact unpaidAt_end q))
            go_wp2
            go_ret3
            rw [HR.out]
            exact ⟨rfl, HBe.out⟩
  · rw [oldF_bad hc]
    have hc' : (codeS l s 0 != 0) = true := by simp [hc]
    clear hc
    go_enter Try.func94, Try.ntmps94
    go_wp2_with fail
    refine (bookingsCode_any A n c l s 0 0 B _ h hB hn hsm (by omega)).mono ?_
    rintro e w1 ⟨rfl, b1⟩
    rw [codeI_self]
    go_wp2
    go_ret3
    exact ⟨rfl, b1⟩
end Go.Proofs.Ytnlghcpidlpfkaa
