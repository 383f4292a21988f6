/- Bookings: the oldest charge that is not paid. -/
import Derived.Test.YtnlghcpidlpfkaaBkG
set_option linter.unusedVariables false
namespace Go.Proofs.Ytnlghcpidlpfkaa
open Go.RowKit

def payf (s : ByteArray) (x : Bk) : Int := if (x.client.toList == s.toList) = true then (if x.amount < 0 then -x.amount else 0) else 0
theorem payf_bd {l : List Bk} (h : okBks l = true) (s : ByteArray) : ∀ x ∈ l, 0 ≤ payf s x ∧ payf s x ≤ 1000000000 := by
  intro x hx
  have := (okBks_mem h x hx).2.2.1
  unfold payf
  split
  · split <;> omega
  · omega
/-- The first charge of the client that what is left of the payments does not cover: from place k on. -/
def unpaid (s : ByteArray) : List Bk → Int → Int → Int × Int × Int
  | [], _, _ => (0, 0, 3)
  | x :: r, k, p => if (x.client.toList == s.toList) = true then (if x.amount < 0 then unpaid s r (k + 1) p else if p < x.amount then (k, x.amount - p, 0) else unpaid s r (k + 1) (p - x.amount)) else unpaid s r (k + 1) p
def unpaidAt (s : ByteArray) (l : List Bk) (k : Nat) (p : Int) : Int × Int × Int := unpaid s (l.drop k) k p
theorem unpaidAt_cons {s : ByteArray} {l : List Bk} {k : Nat} {x : Bk} (p : Int) (h : l[k]? = some x) :
    unpaidAt s l k p = if (x.client.toList == s.toList) = true then (if x.amount < 0 then unpaidAt s l (k + 1) p else if p < x.amount then ((k : Int), x.amount - p, 0) else unpaidAt s l (k + 1) (p - x.amount)) else unpaidAt s l (k + 1) p := by
  obtain ⟨hk, rfl⟩ := List.getElem?_eq_some_iff.1 h
  simp only [unpaidAt]
  rw [List.drop_eq_getElem_cons hk]
  simp only [unpaid, Int.natCast_succ]
theorem unpaidAt_other {s : ByteArray} {l : List Bk} {k : Nat} {x : Bk} (p : Int) (h : l[k]? = some x) (h1 : (x.client.toList == s.toList) = false) : unpaidAt s l k p = unpaidAt s l (k + 1) p := by
  rw [unpaidAt_cons p h, h1]; simp
theorem unpaidAt_pay {s : ByteArray} {l : List Bk} {k : Nat} {x : Bk} (p : Int) (h : l[k]? = some x) (h1 : (x.client.toList == s.toList) = true) (h2 : x.amount < 0) : unpaidAt s l k p = unpaidAt s l (k + 1) p := by
  rw [unpaidAt_cons p h, h1]; simp [h2]
theorem unpaidAt_here {s : ByteArray} {l : List Bk} {k : Nat} {x : Bk} (p : Int) (h : l[k]? = some x) (h1 : (x.client.toList == s.toList) = true) (h2 : ¬ x.amount < 0) (h3 : p < x.amount) : unpaidAt s l k p = ((k : Int), x.amount - p, 0) := by
  rw [unpaidAt_cons p h, h1]; simp only [h2, h3, if_true, if_false]
theorem unpaidAt_on {s : ByteArray} {l : List Bk} {k : Nat} {x : Bk} (p : Int) (h : l[k]? = some x) (h1 : (x.client.toList == s.toList) = true) (h2 : ¬ x.amount < 0) (h3 : ¬ p < x.amount) : unpaidAt s l k p = unpaidAt s l (k + 1) (p - x.amount) := by
  rw [unpaidAt_cons p h, h1]; simp only [h2, h3, if_true, if_false]
theorem unpaidAt_end {s : ByteArray} {l : List Bk} (p : Int) : unpaidAt s l l.length p = (0, 0, 3) := by simp [unpaidAt, unpaid]
def oldF (l : List Bk) (s : ByteArray) : Int × Int × Int := if codeS l s 0 = 0 then unpaidAt s l 0 (bsum (payf s) l l.length) else (0, 0, codeS l s 0)
theorem oldF_ok {l : List Bk} {s : ByteArray} (h : codeS l s 0 = 0) : oldF l s = unpaidAt s l 0 (bsum (payf s) l l.length) := by simp only [oldF, h, if_true]
theorem oldF_bad {l : List Bk} {s : ByteArray} (h : codeS l s 0 ≠ 0) : oldF l s = (0, 0, codeS l s 0) := by simp only [oldF, h, if_false]

set_option maxHeartbeats 2000000 in
theorem specOldestUnpaid_any (A : Option Addr) (n c : Nat) (l : List Bk) (s : ByteArray) (B : Nat) (w : World) (h : Reads w B 3 A n (bks l)) (hB : B ≤ w.heap.size) (hn : n ≤ 1048576) (hsm : ∀ x ∈ l, x.small) (hs : s.size ≤ 1048576) :
    Calls Try.prog 95 #[.slice A n c, .string s] w fun e w' => e = .returned (.tuple #[.int .i64 (oldF l s).1, .int .i64 (oldF l s).2.1, .int .i64 (oldF l s).2.2]) ∧ Below w.heap.size w w' := by
  by_cases hc : codeS l s 0 = 0
  · obtain ⟨h1, h2, h3, h4⟩ := codeS_zero hc
    rw [oldF_ok hc]
    have hl := Lib.hid (bks_len h)
    have hn' : n ≤ 80 := by have := okBks_len h1; have := hl.out; omega
    have HK := Lib.hid h1
    rw [hl.out]
    clear h1 h2 h3 h4
    go_enter Try.func95, Try.ntmps95
    go_wp2_with fail
    refine (l25Code_any A n c l s 0 B _ h hB hn hsm (by omega)).mono ?_
    rintro e w1 ⟨rfl, b1⟩
    rw [hc]
    clear hc hsm
    have h' := h.on hB b1
    have H1 := Lib.hid b1
    clear h
    go_wp2
    clear b1
    go_loop [8, 9] (fun p i => ∃ k : Nat, k ≤ n ∧ i = .int .i64 k ∧ p = .int .i64 (bsum (payf s) l k)) (fun _ i => n - (intOf i).toNat)
    case atStart => exact ⟨0, Nat.zero_le _, rfl, rfl⟩
    case round =>
      obtain ⟨k, hk, rfl, rfl⟩ := hrel
      by_cases hlt : k < n
      · obtain ⟨x, bb, off, he, rfl, hbb, c0, c1, c2⟩ := bk_at h' hlt
        have hx := (okBks_mem HK.out x (List.mem_of_getElem? he)).2.2.1
        have hs1 := bsum_bd0 (payf_bd HK.out s) k
        have HS1 := Lib.hid (bsum_step (f := payf s) he)
        clear he h'
        generalize bsum (payf s) l k = p at *
        rcases hcl : (x.client.toList == s.toList) with _ | _
        · have HF1 := Lib.hid (show payf s x = 0 by simp [payf, hcl])
          go_wp2
          go_round
          case rel => exact ⟨k + 1, by omega, by go_num, by rw [HS1.out, HF1.out, Int.add_zero]⟩
          case measure => simp [intOf]; omega
        · by_cases hp : x.amount < 0
          · have HF1 := Lib.hid (show payf s x = -x.amount by simp [payf, hcl, hp])
            go_wp2
            go_round
            case rel => exact ⟨k + 1, by omega, by go_num, by rw [HS1.out, HF1.out, ← Int.sub_eq_add_neg]⟩
            case measure => simp [intOf]; omega
          · have hp1 : decide (x.amount < 0) = false := decide_eq_false hp
            have HF1 := Lib.hid (show payf s x = 0 by simp [payf, hcl, hp])
            go_wp2
            go_round
            case rel => exact ⟨k + 1, by omega, by go_num, by rw [HS1.out, HF1.out, Int.add_zero]⟩
            case measure => simp [intOf]; omega
      · obtain rfl : k = n := by omega
        have hs1 := bsum_bd0 (payf_bd HK.out s) k
        clear hlt
        go_wp2
        go_loop [8, 10] (fun p i => ∃ (j : Nat) (q : Int), j ≤ k ∧ i = .int .i64 j ∧ p = .int .i64 q ∧ 0 ≤ q ∧ q ≤ 1000000000 * (k : Int) ∧ unpaidAt s l 0 (bsum (payf s) l k) = unpaidAt s l j q) (fun _ i => k - (intOf i).toNat)
        case atStart => exact ⟨0, _, Nat.zero_le _, rfl, rfl, hs1.1, hs1.2, rfl⟩
        case round =>
          obtain ⟨j, q, hj, rfl, rfl, hq0, hq1, hun⟩ := hrel
          have HU := Lib.hid hun
          clear hun hs1
          by_cases hlt : j < k
          · obtain ⟨x, bb, off, he, rfl, hbb, c0, c1, c2⟩ := bk_at h' hlt
            have hx := (okBks_mem HK.out x (List.mem_of_getElem? he)).2.2.1
            have HA := Lib.hid (fun h1 => unpaidAt_other (s := s) q he h1)
            have HC := Lib.hid (fun h1 h2 => unpaidAt_pay (s := s) q he h1 h2)
            have HD := Lib.hid (fun h1 h2 h3 => unpaidAt_here (s := s) q he h1 h2 h3)
            have HE := Lib.hid (fun h1 h2 h3 => unpaidAt_on (s := s) q he h1 h2 h3)
            have hi0 : (0 : Int) ≤ j := by omega
            have hi1 : (j : Int) < k := by omega
            clear he h'
            rcases hcl : (x.client.toList == s.toList) with _ | _
            · have hcl' : (x.client.toList != s.toList) = true := by simp [bne, hcl]
              have HR := Lib.hid (HU.out.trans (HA.out hcl))
              go_wp2
              go_round
              case rel => exact ⟨j + 1, q, by omega, by go_num, rfl, hq0, hq1, HR.out⟩
              case measure => simp [intOf]; omega
            · have hcl' : (x.client.toList != s.toList) = false := by simp [bne, hcl]
              by_cases hp : x.amount < 0
              · have HR := Lib.hid (HU.out.trans (HC.out hcl hp))
                go_wp2
                go_round
                case rel => exact ⟨j + 1, q, by omega, by go_num, rfl, hq0, hq1, HR.out⟩
                case measure => simp [intOf]; omega
              · have hp1 : decide (x.amount < 0) = false := decide_eq_false hp
                by_cases hlow : q < x.amount
                · have HR := Lib.hid (HU.out.trans (HD.out hcl hp hlow))
                  go_wp2
                  go_quiet (fail)
                  go_wp2
                  go_ret3
                  rw [HR.out]
                  exact ⟨rfl, below_drewN H1.out _⟩
                · have hlow1 : decide (q < x.amount) = false := decide_eq_false hlow
                  have HR := Lib.hid (HU.out.trans (HE.out hcl hp hlow))
                  go_wp2
                  go_round
                  case rel => exact ⟨j + 1, q - x.amount, by omega, by go_num, rfl, by omega, by omega, HR.out⟩
                  case measure => simp [intOf]; omega
          · obtain rfl : j = k := by omega
            have HR := Lib.hid (HU.out.trans (show unpaidAt s l j q = (0, 0, 3) by rw [← hl.out]; exact unpaidAt_end q))
            go_wp2
            go_ret3
            rw [HR.out]
            exact ⟨rfl, H1.out⟩
  · rw [oldF_bad hc]
    have hc' : (codeS l s 0 != 0) = true := by simp [hc]
    clear hc
    go_enter Try.func95, Try.ntmps95
    go_wp2_with fail
    refine (l25Code_any A n c l s 0 B _ h hB hn hsm (by omega)).mono ?_
    rintro e w1 ⟨rfl, b1⟩
    go_wp2
    go_ret3
    exact ⟨rfl, b1⟩
end Go.Proofs.Ytnlghcpidlpfkaa
