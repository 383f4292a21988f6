/- Decimal forms of numbers: which texts are such forms. No program in sight. -/
import Derived.Lib.ParseIntBCases
import Derived.Lib.ItoaNum
set_option linter.unusedVariables false
namespace Go.Proofs.YtjalgpioklcbfaaGreatDoor
open Go.Lib

def isDig (c : UInt8) : Bool := decide (48 ≤ c.toNat) && decide (c.toNat ≤ 57)
theorem isDig_iff {c : UInt8} : isDig c = true ↔ 48 ≤ c.toNat ∧ c.toNat ≤ 57 := by simp [isDig]
theorem isDig_not {c : UInt8} : isDig c = false ↔ ¬ (48 ≤ c.toNat ∧ c.toNat ≤ 57) := by rw [← isDig_iff]; simp
def valD (l : List UInt8) : Nat := l.foldl (fun a c => a * 10 + (c.toNat - 48)) 0
def valF (a : Nat) (l : List UInt8) : Nat := l.foldl (fun a c => a * 10 + (c.toNat - 48)) a
theorem valF_lt : ∀ (l : List UInt8) (a k : Nat), a < 10 ^ k → l.all isDig = true → valF a l < 10 ^ (k + l.length)
  | [], a, k, h, _ => by simpa [valF] using h
  | c :: r, a, k, h, hd => by
    simp only [List.all_cons, Bool.and_eq_true] at hd
    have hc := isDig_iff.1 hd.1
    have := valF_lt r (a * 10 + (c.toNat - 48)) (k + 1) (by rw [Nat.pow_succ]; omega) hd.2
    rw [show k + (c :: r).length = k + 1 + r.length by simp; omega]
    exact this
theorem valD_lt {l : List UInt8} (hd : l.all isDig = true) (hl : l.length ≤ 18) : valD l < 1000000000000000000 := by
  have := valF_lt l 0 0 (by decide) hd
  have h2 : 10 ^ (0 + l.length) ≤ 10 ^ 18 := Nat.pow_le_pow_right (by decide) (by omega)
  have h3 : (10 : Nat) ^ 18 = 1000000000000000000 := by decide
  show valF 0 l < _
  omega
theorem valD_snoc (l : List UInt8) (c : UInt8) : valD (l ++ [c]) = valD l * 10 + (c.toNat - 48) := by simp [valD]
/-- What stands behind a sign. -/
def bare (s : List UInt8) : List UInt8 := match s with
  | [] => []
  | c :: r => if c = 45 then r else c :: r
def negS (s : List UInt8) : Bool := match s with
  | [] => false
  | c :: _ => c == 45
def numS (s : List UInt8) : Int := if negS s = true then -(valD (bare s) : Int) else valD (bare s)
/-- A text is the decimal form of a number of at most 18 digits. -/
def isDec (s : List UInt8) : Bool := !(bare s).isEmpty && decide ((bare s).length ≤ 18) && (bare s).all isDig && (itoa (numS s) == s)
theorem isDec_iff {s : List UInt8} : isDec s = true ↔ bare s ≠ [] ∧ (bare s).length ≤ 18 ∧ (bare s).all isDig = true ∧ itoa (numS s) = s := by
  simp [isDec, and_assoc]
def readN (s : List UInt8) : Int × Bool := if isDec s = true then (numS s, true) else (0, false)
theorem readN_no {s : List UInt8} (h : isDec s = false) : readN s = (0, false) := by simp [readN, h]
theorem readN_yes {s : List UInt8} (h : isDec s = true) : readN s = (numS s, true) := by simp [readN, h]
theorem readN_bd (s : List UInt8) : -1000000000000000000 < (readN s).1 ∧ (readN s).1 < 1000000000000000000 := by
  rcases h : isDec s with _ | _
  · rw [readN_no h]; decide
  · obtain ⟨_, h2, h3, _⟩ := isDec_iff.1 h
    have := valD_lt h3 h2
    rw [readN_yes h]
    simp only [numS]
    split <;> omega
theorem isDec_long {s : List UInt8} (h : 18 < (bare s).length) : isDec s = false := by
  rcases hd : isDec s with _ | _
  · rfl
  · have := (isDec_iff.1 hd).2.1; omega
theorem isDec_empty {s : List UInt8} (h : bare s = []) : isDec s = false := by simp [isDec, h]
theorem isDec_bad {s : List UInt8} (h : (bare s).all isDig = false) : isDec s = false := by simp [isDec, h]
theorem isDec_odd {s : List UInt8} (h : itoa (numS s) ≠ s) : isDec s = false := by
  rcases hd : isDec s with _ | _
  · rfl
  · exact absurd (isDec_iff.1 hd).2.2.2 h
theorem bare_len (s : List UInt8) : (bare s).length ≤ s.length ∧ s.length ≤ (bare s).length + 1 := by
  cases s with
  | nil => simp [bare]
  | cons c r => simp only [bare]; split <;> simp
theorem parseM_dig : ∀ (l : List UInt8) (a k : Nat), a < 10 ^ k → k + l.length ≤ 18 → l.all isDig = true → parseUintM 18446744073709551615 a l = .ok (valF a l)
  | [], a, k, h, _, _ => rfl
  | c :: r, a, k, h, hk, hd => by
    simp only [List.all_cons, Bool.and_eq_true] at hd
    have hc := isDig_iff.1 hd.1
    have hp : 10 ^ (k + 1) ≤ 10 ^ 18 := Nat.pow_le_pow_right (by decide) (by simp at hk; omega)
    have h3 : (10 : Nat) ^ 18 = 1000000000000000000 := by decide
    have ha : a * 10 + (c.toNat - 48) < 10 ^ (k + 1) := by rw [Nat.pow_succ]; omega
    rw [parseUintM, if_pos hc, if_neg (by rw [Nat.pow_succ] at hp; omega), if_neg (by omega), parseM_dig r _ (k + 1) ha (by simp at hk; omega) hd.2]
    rfl
theorem parseM_bad : ∀ (l : List UInt8) (a k : Nat), a < 10 ^ k → k + l.length ≤ 18 → l.all isDig = false → parseUintM 18446744073709551615 a l = NumEnd.syntax
  | [], a, k, h, _, hd => by simp at hd
  | c :: r, a, k, h, hk, hd => by
    rcases hc : isDig c with _ | _
    · rw [parseUintM, if_neg (isDig_not.1 hc)]
    · have hc' := isDig_iff.1 hc
      have hp : 10 ^ (k + 1) ≤ 10 ^ 18 := Nat.pow_le_pow_right (by decide) (by simp at hk; omega)
      have h3 : (10 : Nat) ^ 18 = 1000000000000000000 := by decide
      have ha : a * 10 + (c.toNat - 48) < 10 ^ (k + 1) := by rw [Nat.pow_succ]; omega
      simp only [List.all_cons, hc, Bool.true_and] at hd
      rw [parseUintM, if_pos hc', if_neg (by rw [Nat.pow_succ] at hp; omega), if_neg (by omega), parseM_bad r _ (k + 1) ha (by simp at hk; omega) hd]
theorem decDigits_dig (u : Nat) : (decDigits u).all isDig = true := by
  induction u using Nat.strongRecOn with
  | _ u ih =>
    have one : ∀ d, d < 10 → isDig (UInt8.ofNat (48 + d)) = true := fun d hd => by
      rw [isDig_iff, UInt8.toNat_ofNat']
      omega
    by_cases h : u < 10
    · rw [decDigits, dif_pos h, List.all_cons, one u h]; rfl
    · rw [decDigits, dif_neg h]
      simp only [List.all_append, ih (u / 10) (by omega), List.all_cons, one (u % 10) (by omega), List.all_nil, Bool.and_self]
theorem decDigits_ne (u : Nat) : decDigits u ≠ [] := by
  rw [decDigits]; split <;> simp
/-- No decimal form begins with '+'. -/
theorem itoa_plus (n : Int) (r : List UInt8) : itoa n ≠ 43 :: r := by
  unfold itoa
  split
  · intro h; injection h with h; cases h
  · intro h
    have := decDigits_dig n.toNat
    rw [h] at this
    simp [isDig] at this
theorem parse_ok {s : List UInt8} (hl : (bare s).length ≤ 18) {v : Int} (h : parseIntB 64 s = .ok v) : (itoa v = s → isDec s = true ∧ numS s = v) ∧ (itoa v ≠ s → isDec s = false) := by
  cases s with
  | nil => simp [parseIntB] at h
  | cons c r =>
    by_cases hp : c.toNat = 43
    · have hc : c = 43 := by rw [← UInt8.toNat_inj]; exact hp
      subst hc
      have hno : isDec (43 :: r) = false := isDec_bad (by simp [bare, isDig])
      exact ⟨fun he => absurd he (itoa_plus v r), fun _ => hno⟩
    · by_cases hm : c.toNat = 45
      · have hc : c = 45 := by rw [← UInt8.toNat_inj]; exact hm
        subst hc
        have hb : bare (45 :: r) = r := by simp [bare]
        have hn : numS (45 :: r) = -(valD r : Int) := by simp [numS, negS, hb]
        rw [hb] at hl
        unfold parseIntB parseUintB at h
        simp only [hm, or_true, if_true] at h
        by_cases hr : r = []
        · rw [if_pos hr] at h; cases h
        · rw [if_neg hr] at h
          rcases hd : r.all isDig with _ | _
          · have := parseM_bad r 0 0 (by decide) (by omega) hd
            rw [show (2 ^ 64 - 1 : Nat) = 18446744073709551615 from rfl, this] at h
            cases h
          · have := parseM_dig r 0 0 (by decide) (by omega) hd
            have hv := valD_lt hd hl
            rw [show (2 ^ 64 - 1 : Nat) = 18446744073709551615 from rfl, this] at h
            simp only [not_true, false_and, if_false, true_and] at h
            rw [if_neg (by show ¬ (2 ^ 63 < valD r); omega)] at h
            injection h with h
            have hv' : numS (45 :: r) = v := by rw [hn]; exact h
            exact ⟨fun he => ⟨isDec_iff.2 ⟨by rw [hb]; exact hr, by rw [hb]; exact hl, by rw [hb]; exact hd, by rw [hv']; exact he⟩, hv'⟩, fun he => isDec_odd (by rw [hv']; exact he)⟩
      · have hc : c ≠ 45 := fun hh => hm (by rw [hh]; rfl)
        have hb : bare (c :: r) = c :: r := by simp [bare, hc]
        have hn : numS (c :: r) = (valD (c :: r) : Int) := by simp [numS, negS, hb, hc]
        rw [hb] at hl
        unfold parseIntB parseUintB at h
        simp only [hp, hm, or_self, if_false, false_and] at h
        rw [if_neg (by simp)] at h
        rcases hd : (c :: r).all isDig with _ | _
        · have := parseM_bad (c :: r) 0 0 (by decide) (by omega) hd
          rw [show (2 ^ 64 - 1 : Nat) = 18446744073709551615 from rfl, this] at h
          cases h
        · have := parseM_dig (c :: r) 0 0 (by decide) (by omega) hd
          have hv := valD_lt hd hl
          rw [show (2 ^ 64 - 1 : Nat) = 18446744073709551615 from rfl, this] at h
          simp only [not_false_eq_true, true_and] at h
          rw [if_neg (by show ¬ (2 ^ 63 ≤ valD (c :: r)); omega)] at h
          injection h with h
          have hv' : numS (c :: r) = v := by rw [hn]; exact h
          exact ⟨fun he => ⟨isDec_iff.2 ⟨by rw [hb]; simp, by rw [hb]; exact hl, by rw [hb]; exact hd, by rw [hv']; exact he⟩, hv'⟩, fun he => isDec_odd (by rw [hv']; exact he)⟩
theorem parse_syntax {s : List UInt8} (hl : (bare s).length ≤ 18) (h : parseIntB 64 s = NumEnd.syntax) : isDec s = false := by
  rcases hd : isDec s with _ | _
  · rfl
  · exfalso
    obtain ⟨h1, h2, h3, h4⟩ := isDec_iff.1 hd
    cases s with
    | nil => exact h1 rfl
    | cons c r =>
      by_cases hp : c.toNat = 43
      · have hc : c = 43 := by rw [← UInt8.toNat_inj]; exact hp
        subst hc
        exact itoa_plus _ _ h4
      · by_cases hm : c.toNat = 45
        · have hc : c = 45 := by rw [← UInt8.toNat_inj]; exact hm
          subst hc
          have hb : bare (45 :: r) = r := by simp [bare]
          rw [hb] at h1 h2 h3
          have := parseM_dig r 0 0 (by decide) (by omega) h3
          have hv := valD_lt h3 h2
          unfold parseIntB parseUintB at h
          simp only [hm, or_true, if_true] at h
          rw [if_neg h1, show (2 ^ 64 - 1 : Nat) = 18446744073709551615 from rfl, this] at h
          simp only [not_true, false_and, if_false, true_and] at h
          rw [if_neg (by show ¬ (2 ^ 63 < valD r); omega)] at h
          cases h
        · have hc : c ≠ 45 := fun hh => hm (by rw [hh]; rfl)
          have hb : bare (c :: r) = c :: r := by simp [bare, hc]
          rw [hb] at h1 h2 h3
          have := parseM_dig (c :: r) 0 0 (by decide) (by omega) h3
          have hv := valD_lt h3 h2
          unfold parseIntB parseUintB at h
          simp only [hp, hm, or_self, if_false, false_and] at h
          rw [if_neg h1, show (2 ^ 64 - 1 : Nat) = 18446744073709551615 from rfl, this] at h
          simp only [not_false_eq_true, true_and] at h
          rw [if_neg (by show ¬ (2 ^ 63 ≤ valD (c :: r)); omega)] at h
          cases h
/-- The digits ahead of those that a loop has written. -/
def dgts (u : Nat) : List UInt8 := if u = 0 then [] else decDigits u
theorem dgts_zero : dgts 0 = [] := rfl
theorem dgts_step {u : Nat} (h : u ≠ 0) : dgts u = dgts (u / 10) ++ [UInt8.ofNat (48 + u % 10)] := by
  unfold dgts
  rw [if_neg h, decDigits]
  by_cases h1 : u < 10
  · rw [dif_pos h1, if_pos (by omega), Nat.mod_eq_of_lt h1]; rfl
  · rw [dif_neg h1, if_neg (by omega)]
theorem itoa_pos {n : Int} (h : 0 < n) : itoa n = dgts n.natAbs := by
  unfold itoa dgts
  rw [if_neg (by omega), if_neg (by omega)]
  congr 1
  omega
theorem itoa_neg {n : Int} (h : n < 0) : itoa n = 45 :: dgts n.natAbs := by
  unfold itoa dgts
  rw [if_pos h, if_neg (by omega)]
theorem itoa_zero : itoa 0 = [48] := by
  unfold itoa
  rw [if_neg (by decide), decDigits, dif_pos (by decide)]
  rfl
theorem pow_le_nDigits : ∀ (k u : Nat), k < nDigits u → 10 ^ k ≤ u ∨ k = 0
  | 0, u, _ => .inr rfl
  | k + 1, u, hu => by
    by_cases hs : u < 10
    · rw [nDigits_small hs] at hu; omega
    · rw [nDigits_big hs] at hu
      rcases pow_le_nDigits k (u / 10) (by omega) with h | h
      · left; rw [Nat.pow_succ]; omega
      · subst h; left; omega
theorem dgts_len {u : Nat} (h : u < 10000000000000000000) : (dgts u).length ≤ 19 := by
  unfold dgts
  split
  · simp
  · rw [decDigits_eq, List.length_map, List.length_range]
    rcases Nat.lt_or_ge 19 (nDigits u) with h1 | h1
    · exfalso
      rcases pow_le_nDigits 19 u h1 with h | h
      · have h3 : (10 : Nat) ^ 19 = 10000000000000000000 := by decide
        omega
      · cases h
    · exact h1
theorem itoa_len {n : Int} (h0 : -9223372036854775808 ≤ n) (h1 : n ≤ 9223372036854775807) : (itoa n).length ≤ 20 := by
  rcases Int.lt_trichotomy n 0 with h | h | h
  · rw [itoa_neg h]; have := dgts_len (u := n.natAbs) (by omega); simp; omega
  · subst h; rw [itoa_zero]; decide
  · rw [itoa_pos h]; have := dgts_len (u := n.natAbs) (by omega); omega
theorem decDigits_len {u : Nat} (h : u < 1000000000000000000) : (decDigits u).length ≤ 18 := by
  rw [decDigits_eq, List.length_map, List.length_range]
  rcases Nat.lt_or_ge 18 (nDigits u) with h1 | h1
  · exfalso
    rcases pow_le_nDigits 18 u h1 with h2 | h2
    · have h3 : (10 : Nat) ^ 18 = 1000000000000000000 := by decide
      omega
    · cases h2
  · exact h1
theorem valD_digits (u : Nat) : valD (decDigits u) = u := by
  induction u using Nat.strongRecOn with
  | _ u ih =>
    have one : ∀ d, d < 10 → (UInt8.ofNat (48 + d)).toNat = 48 + d := fun d hd => by rw [UInt8.toNat_ofNat']; omega
    by_cases h : u < 10
    · rw [decDigits, dif_pos h]
      show 0 * 10 + ((UInt8.ofNat (48 + u)).toNat - 48) = u
      rw [one u h]; omega
    · rw [decDigits, dif_neg h, valD_snoc, ih (u / 10) (by omega), one (u % 10) (by omega)]
      omega
theorem dig_not_minus {c : UInt8} {r l : List UInt8} (hl : l.all isDig = true) (h : l = c :: r) : c ≠ 45 := by
  subst h
  intro e
  subst e
  simp [isDig] at hl
theorem bare_dig {l : List UInt8} (hl : l.all isDig = true) : bare l = l ∧ negS l = false := by
  cases l with
  | nil => exact ⟨rfl, rfl⟩
  | cons c r =>
    have := dig_not_minus hl rfl
    exact ⟨by simp [bare, this], by simp [negS, this]⟩
theorem isDec_itoa {n : Int} (h0 : -1000000000000000000 < n) (h1 : n < 1000000000000000000) : isDec (itoa n) = true ∧ numS (itoa n) = n := by
  by_cases hn : n < 0
  · have e : itoa n = 45 :: decDigits n.natAbs := by unfold itoa; rw [if_pos hn]
    have hb : bare (itoa n) = decDigits n.natAbs := by rw [e]; simp [bare]
    have hv : numS (itoa n) = n := by
      unfold numS
      rw [hb, e]
      simp only [negS, beq_self_eq_true, if_true, valD_digits]
      omega
    refine ⟨isDec_iff.2 ⟨by rw [hb]; exact decDigits_ne _, by rw [hb]; exact decDigits_len (by omega), by rw [hb]; exact decDigits_dig _, by rw [hv]⟩, hv⟩
  · have e : itoa n = decDigits n.toNat := by unfold itoa; rw [if_neg hn]
    obtain ⟨hb, hs⟩ := bare_dig (decDigits_dig n.toNat)
    have hv : numS (itoa n) = n := by
      unfold numS
      rw [e, hb, hs]
      simp only [Bool.false_eq_true, if_false, valD_digits]
      omega
    refine ⟨isDec_iff.2 ⟨by rw [e, hb]; exact decDigits_ne _, by rw [e, hb]; exact decDigits_len (by omega), by rw [e, hb]; exact decDigits_dig _, by rw [hv]⟩, hv⟩
theorem itoa_numS {s : List UInt8} (h : isDec s = true) : itoa (numS s) = s := (isDec_iff.1 h).2.2.2
end Go.Proofs.YtjalgpioklcbfaaGreatDoor
