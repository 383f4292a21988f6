/- Bookings: the turnover of a span of days. -/
import Derived.Test.YtnlghcpidlpfkaaBkG
set_option linter.unusedVariables false
namespace Go.Proofs.Ytnlghcpidlpfkaa
open Go.RowKit

theorem l25Span_any (a b : Int) (w : World) : Calls Try.prog 182 #[.int .i64 a, .int .i64 b] w fun e w' => e = .returned (.bool (inR a 0 20000 && inR b a 20000)) ∧ w = w' := by
  rcases h1 : inR a 0 20000 with _ | _
  · go_enter Try.func182, Try.ntmps182
    go_wp2_with (first | (go_at_call 139; refine (l25Day_any _ _).mono ?_; rintro e w2 ⟨rfl, rfl⟩) | (go_at_call 159; refine (l00In_any _ _ _ _).mono ?_; rintro e w2 ⟨rfl, rfl⟩))
    go_ret
    exact ⟨ret_bool (by simp), rfl⟩
  · go_enter Try.func182, Try.ntmps182
    go_wp2_with (first | (go_at_call 139; refine (l25Day_any _ _).mono ?_; rintro e w2 ⟨rfl, rfl⟩) | (go_at_call 159; refine (l00In_any _ _ _ _).mono ?_; rintro e w2 ⟨rfl, rfl⟩))
    go_ret
    exact ⟨ret_bool (by simp), rfl⟩

def paidf (a b : Int) (x : Bk) : Int := if inR x.day a b = true then (if 0 < x.amount then x.amount else 0) else 0
def owesf (a b : Int) (x : Bk) : Int := if inR x.day a b = true then (if 0 < x.amount then 0 else -x.amount) else 0
theorem paidf_bd {l : List Bk} (h : okBks l = true) (a b : Int) : ∀ x ∈ l, 0 ≤ paidf a b x ∧ paidf a b x ≤ 1000000000 := by
  intro x hx
  have := (okBks_mem h x hx).2.2.1
  unfold paidf
  split
  · split <;> omega
  · omega
theorem owesf_bd {l : List Bk} (h : okBks l = true) (a b : Int) : ∀ x ∈ l, 0 ≤ owesf a b x ∧ owesf a b x ≤ 1000000000 := by
  intro x hx
  have := (okBks_mem h x hx).2.2.1
  unfold owesf
  split
  · split <;> omega
  · omega
def turnF (l : List Bk) (a b : Int) : Int × Int × Int := if okBks l = true then (if (inR a 0 20000 && inR b a 20000) = true then (bsum (paidf a b) l l.length, bsum (owesf a b) l l.length, 0) else (0, 0, 2)) else (0, 0, 1)
theorem turnF_ok {l : List Bk} {a b : Int} (h : okBks l = true) (h2 : (inR a 0 20000 && inR b a 20000) = true) : turnF l a b = (bsum (paidf a b) l l.length, bsum (owesf a b) l l.length, 0) := by simp only [turnF, h, h2, if_true]
theorem turnF_span {l : List Bk} {a b : Int} (h : okBks l = true) (h2 : (inR a 0 20000 && inR b a 20000) = false) : turnF l a b = (0, 0, 2) := by simp only [turnF, h, h2, if_true, Bool.false_eq_true, if_false]
theorem turnF_bad {l : List Bk} {a b : Int} (h : okBks l = false) : turnF l a b = (0, 0, 1) := by simp only [turnF, h, Bool.false_eq_true, if_false]

set_option maxHeartbeats 2000000 in
theorem specTurnoverOf_any (A : Option Addr) (n c : Nat) (l : List Bk) (a b : Int) (B : Nat) (w : World) (h : Reads w B 3 A n (bks l)) (hB : B ≤ w.heap.size) (hn : n ≤ 1048576) (hsm : ∀ x ∈ l, x.small) (ha : I64 a) (hb : I64 b) :
    Calls Try.prog 89 #[.slice A n c, .int .i64 a, .int .i64 b] w fun e w' => e = .returned (.tuple #[.int .i64 (turnF l a b).1, .int .i64 (turnF l a b).2.1, .int .i64 (turnF l a b).2.2]) ∧ Below w.heap.size w w' := by
  rcases hok : okBks l with _ | _
  · have HO := Lib.hid (turnF_bad (a := a) (b := b) hok)
    go_enter Try.func89, Try.ntmps89
    go_wp2_with fail
    refine (l25Ok_any A n c B l _ h hn hB hsm).mono ?_
    rintro e w1 ⟨rfl, b1⟩
    go_wp2
    go_ret3
    rw [HO.out]
    exact ⟨rfl, b1⟩
  · rcases hsp : (inR a 0 20000 && inR b a 20000) with _ | _
    · have HO := Lib.hid (turnF_span hok hsp)
      go_enter Try.func89, Try.ntmps89
      go_wp2_with fail
      refine (l25Ok_any A n c B l _ h hn hB hsm).mono ?_
      rintro e w1 ⟨rfl, b1⟩
      go_wp2_with fail
      refine (l25Span_any _ _ _).mono ?_
      rintro e w2 ⟨rfl, rfl⟩
      rw [hsp]
      clear hsp
      go_wp2
      go_ret3
      rw [HO.out]
      exact ⟨rfl, b1⟩
    · have HO := Lib.hid (turnF_ok hok hsp)
      have hl := Lib.hid (bks_len h)
      have hn' : n ≤ 80 := by have := okBks_len hok; have := hl.out; omega
      have HK := Lib.hid hok
      go_enter Try.func89, Try.ntmps89
      go_wp2_with fail
      refine (l25Ok_any A n c B l _ h hn hB hsm).mono ?_
      rintro e w1 ⟨rfl, b1⟩
      go_wp2_with fail
      refine (l25Span_any _ _ _).mono ?_
      rintro e w2 ⟨rfl, rfl⟩
      rw [hsp]
      clear hsp hok hsm ha hb
      have h' := h.on hB b1
      clear h
      go_wp2
      go_loop [9, 10, 11] (fun p q i => ∃ k : Nat, k ≤ n ∧ i = .int .i64 k ∧ p = .int .i64 (bsum (paidf a b) l k) ∧ q = .int .i64 (bsum (owesf a b) l k)) (fun _ _ i => n - (intOf i).toNat)
      case atStart => exact ⟨0, Nat.zero_le _, rfl, rfl, rfl⟩
      case round =>
        obtain ⟨k, hk, rfl, rfl, rfl⟩ := hrel
        by_cases hlt : k < n
        · obtain ⟨x, bb, off, he, rfl, hbb, c0, c1, c2⟩ := bk_at h' hlt
          have hx := (okBks_mem HK.out x (List.mem_of_getElem? he)).2.2.1
          have hs1 := bsum_bd0 (paidf_bd HK.out a b) k
          have hs2 := bsum_bd0 (owesf_bd HK.out a b) k
          have HS1 := Lib.hid (bsum_step (f := paidf a b) he)
          have HS2 := Lib.hid (bsum_step (f := owesf a b) he)
          clear he h'
          generalize bsum (paidf a b) l k = p at *
          generalize bsum (owesf a b) l k = q at *
          rcases hin : inR x.day a b with _ | _
          · have HF1 := Lib.hid (show paidf a b x = 0 by simp [paidf, hin])
            have HF2 := Lib.hid (show owesf a b x = 0 by simp [owesf, hin])
            go_wp2_with (go_at_call 159; refine (l00In_any _ _ _ _).mono ?_; rintro e w2 ⟨rfl, rfl⟩)
            go_round
            case rel => exact ⟨k + 1, by omega, by go_num, by rw [HS1.out, HF1.out, Int.add_zero], by rw [HS2.out, HF2.out, Int.add_zero]⟩
            case measure => simp [intOf]; omega
          · by_cases hp : 0 < x.amount
            · have HF1 := Lib.hid (show paidf a b x = x.amount by simp [paidf, hin, hp])
              have HF2 := Lib.hid (show owesf a b x = 0 by simp [owesf, hin, hp])
              go_wp2_with (go_at_call 159; refine (l00In_any _ _ _ _).mono ?_; rintro e w2 ⟨rfl, rfl⟩)
              go_round
              case rel => exact ⟨k + 1, by omega, by go_num, by rw [HS1.out, HF1.out], by rw [HS2.out, HF2.out, Int.add_zero]⟩
              case measure => simp [intOf]; omega
            · have hp1 : decide (0 < x.amount) = false := decide_eq_false hp
              have HF1 := Lib.hid (show paidf a b x = 0 by simp [paidf, hin, hp])
              have HF2 := Lib.hid (show owesf a b x = -x.amount by simp [owesf, hin, hp])
              go_wp2_with (go_at_call 159; refine (l00In_any _ _ _ _).mono ?_; rintro e w2 ⟨rfl, rfl⟩)
              go_round
              case rel => exact ⟨k + 1, by omega, by go_num, by rw [HS1.out, HF1.out, Int.add_zero], by rw [HS2.out, HF2.out, ← Int.sub_eq_add_neg]⟩
              case measure => simp [intOf]; omega
        · obtain rfl : k = n := by omega
          go_wp2
          go_ret3
          rw [HO.out, hl.out]
          exact ⟨rfl, b1⟩

set_option maxHeartbeats 2000000 in
theorem implTurnoverOf_any (A : Option Addr) (n c : Nat) (l : List Bk) (a b : Int) (B : Nat) (w : World) (h : Reads w B 3 A n (bks l)) (hB : B ≤ w.heap.size) (hn : n ≤ 1048576) (hsm : ∀ x ∈ l, x.small) (ha : I64 a) (hb : I64 b) :
    Calls Try.prog 88 #[.slice A n c, .int .i64 a, .int .i64 b] w fun e w' => e = .returned (.tuple #[.int .i64 (turnF l a b).1, .int .i64 (turnF l a b).2.1, .int .i64 (turnF l a b).2.2]) ∧ Below w.heap.size w w' := by
  have ha1 : isName ⟨#[97]⟩ = true := by decide +kernel
  rcases hok : okBks l with _ | _
  · have HO := Lib.hid (turnF_bad (a := a) (b := b) hok)
    have hc : codeI l ⟨#[97]⟩ a b = 1 := by simp [codeI, hok]
    go_enter Try.func88, Try.ntmps88
    go_wp2_with fail
    refine (bookingsCode_any A n c l _ a b B _ h hB hn hsm (by decide)).mono ?_
    rintro e w1 ⟨rfl, b1⟩
    rw [hc]
    clear hc
    go_wp2
    go_ret3
    rw [HO.out]
    exact ⟨rfl, b1⟩
  · rcases hsp : (inR a 0 20000 && inR b a 20000) with _ | _
    · have HO := Lib.hid (turnF_span hok hsp)
      have hc : codeI l ⟨#[97]⟩ a b = 2 := by simp only [codeI, hok, hsp, ha1]; rfl
      go_enter Try.func88, Try.ntmps88
      go_wp2_with fail
      refine (bookingsCode_any A n c l _ a b B _ h hB hn hsm (by decide)).mono ?_
      rintro e w1 ⟨rfl, b1⟩
      rw [hc]
      clear hc hsp
      go_wp2
      go_ret3
      rw [HO.out]
      exact ⟨rfl, b1⟩
    · have HO := Lib.hid (turnF_ok hok hsp)
      have hc : codeI l ⟨#[97]⟩ a b = 0 := by simp only [codeI, hok, hsp, ha1]; rfl
      have hl := Lib.hid (bks_len h)
      have hn' : n ≤ 80 := by have := okBks_len hok; have := hl.out; omega
      have HK := Lib.hid hok
      go_enter Try.func88, Try.ntmps88
      go_wp2_with fail
      refine (bookingsCode_any A n c l _ a b B _ h hB hn hsm (by decide)).mono ?_
      rintro e w1 ⟨rfl, b1⟩
      rw [hc]
      clear hsp hok hsm ha hb hc
      have H1 := Lib.hid b1
      go_wp2
      clear b1
      go_loopw [10, 11, 23] (fun p q i wr => ∃ k : Nat, k ≤ n ∧ i = .int .i64 k ∧ p = .int .i64 (bsum (paidf a b) l k) ∧ q = .int .i64 (bsum (owesf a b) l k) ∧ Below w.heap.size w wr) (fun _ _ i _ => n - (intOf i).toNat)
      case atStart => exact ⟨0, Nat.zero_le _, rfl, rfl, rfl, H1.out⟩
      case round =>
        obtain ⟨k, hk, rfl, rfl, rfl, hbel⟩ := hrel
        have HBe := Lib.hid hbel
        by_cases hlt : k < n
        · obtain ⟨x, bb, off, he, rfl, hbb, c0, c1, c2⟩ := bk_at (h.on hB hbel) hlt
          have hx := (okBks_mem HK.out x (List.mem_of_getElem? he)).2.2.1
          have hs1 := bsum_bd0 (paidf_bd HK.out a b) k
          have hs2 := bsum_bd0 (owesf_bd HK.out a b) k
          have HS1 := Lib.hid (bsum_step (f := paidf a b) he)
          have HS2 := Lib.hid (bsum_step (f := owesf a b) he)
          clear he h hbel
          generalize bsum (paidf a b) l k = p at *
          generalize bsum (owesf a b) l k = q at *
          rcases hin : inR x.day a b with _ | _
          · have HF1 := Lib.hid (show paidf a b x = 0 by simp [paidf, hin])
            have HF2 := Lib.hid (show owesf a b x = 0 by simp [owesf, hin])
            go_wp2_with (go_at_call 157; refine (within_any _ _ _ _).mono ?_; rintro e w2 ⟨rfl, rfl⟩)
            go_roundw
            case rel => exact ⟨k + 1, by omega, by go_num, by rw [HS1.out, HF1.out, Int.add_zero], by rw [HS2.out, HF2.out, Int.add_zero], HBe.out.alloc HBe.out.size _⟩
            case measure => simp [intOf]; omega
          · by_cases hp : 0 < x.amount
            · have HF1 := Lib.hid (show paidf a b x = x.amount by simp [paidf, hin, hp])
              have HF2 := Lib.hid (show owesf a b x = 0 by simp [owesf, hin, hp])
              have hm1 : max x.amount 0 = x.amount := by omega
              have hm2 : max (-x.amount) 0 = 0 := by omega
              go_wp2_with (go_at_call 157; refine (within_any _ _ _ _).mono ?_; rintro e w2 ⟨rfl, rfl⟩)
              go_roundw
              case rel => exact ⟨k + 1, by omega, by go_num, by rw [HS1.out, HF1.out], by rw [HS2.out, HF2.out, Int.add_zero], HBe.out.alloc HBe.out.size _⟩
              case measure => simp [intOf]; omega
            · have HF1 := Lib.hid (show paidf a b x = 0 by simp [paidf, hin, hp])
              have HF2 := Lib.hid (show owesf a b x = -x.amount by simp [owesf, hin, hp])
              have hm1 : max x.amount 0 = 0 := by omega
              have hm2 : max (-x.amount) 0 = -x.amount := by omega
              go_wp2_with (go_at_call 157; refine (within_any _ _ _ _).mono ?_; rintro e w2 ⟨rfl, rfl⟩)
              go_roundw
              case rel => exact ⟨k + 1, by omega, by go_num, by rw [HS1.out, HF1.out, Int.add_zero]; congr 1; split <;> omega, by rw [HS2.out, HF2.out], HBe.out.alloc HBe.out.size _⟩
              case measure => simp [intOf]; omega
        · obtain rfl : k = n := by omega
          go_wp2
          go_ret3
          rw [HO.out, hl.out]
          exact ⟨rfl, hbel⟩
end Go.Proofs.Ytnlghcpidlpfkaa
