/- Decimal forms of numbers: which texts are such forms. No program in sight. Texts cut at a byte: the plain law. No program in sight. The reference's decimal form of a number. The library's table of powers of ten, carried; the program's decimal form of a number. Bookings as texts, both sides. -/
import Derived.Lib.ParseIntBCases
import Derived.Lib.ItoaNum
import Derived.Lib.Split
import Derived.Lib.SplitLaws
import Derived.Lib.CutLaws
import Derived.Test.YtjmlcobbjpmjpaaGreatDoorMgBalancesAD
import Derived.Test.YtjmlcobbjpmjpaaGreatDoorProg
import Derived.Laws.IdiomStrings
import Derived.IntWalk
import Derived.Test.YtjmlcobbjpmjpaaGreatDoorShelf
import Derived.Lib.LaidTab
import Derived.Test.YtjmlcobbjpmjpaaGreatDoorMgBalancesAB
import Derived.Deep.RegionHeld3
set_option linter.unusedVariables false
set_option linter.unusedSimpArgs false
namespace Go.Proofs.YtjmlcobbjpmjpaaGreatDoor
open Go.Lib

def isDig (c : UInt8) : Bool := decide (48 ≤ c.toNat) && decide (c.toNat ≤ 57)
theorem isDig_iff {c : UInt8} : isDig c = true ↔ 48 ≤ c.toNat ∧ c.toNat ≤ 57 := by simp [isDig]
theorem isDig_not {c : UInt8} : isDig c = false ↔ ¬ (48 ≤ c.toNat ∧ c.toNat ≤ 57) := by rw [← isDig_iff]; simp
def valD (l : List UInt8) : Nat := l.foldl (fun a c => a * 10 + (c.toNat - 48)) 0
def valF (a : Nat) (l : List UInt8) : Nat := l.foldl (fun a c => a * 10 + (c.toNat - 48)) a
theorem valF_lt : ∀ (l : List UInt8) (a k : Nat), a < 10 ^ k → l.all isDig = true → valF a l < 10 ^ (k + l.length)
  | [], a, k, h, _ => by simpa [valF] using h
  | c :: r, a, k, h, hd => by
    simp only [List.all_cons, Bool.and_eq_true] at hd
    have hc := isDig_iff.1 hd.1
    have := valF_lt r (a * 10 + (c.toNat - 48)) (k + 1) (by rw [Nat.pow_succ]; omega) hd.2
    rw [show k + (c :: r).length = k + 1 + r.length by simp; omega]
    exact this
theorem valD_lt {l : List UInt8} (hd : l.all isDig = true) (hl : l.length ≤ 18) : valD l < 1000000000000000000 := by
  have := valF_lt l 0 0 (by decide) hd
  have h2 : 10 ^ (0 + l.length) ≤ 10 ^ 18 := Nat.pow_le_pow_right (by decide) (by omega)
  have h3 : (10 : Nat) ^ 18 = 1000000000000000000 := by decide
  show valF 0 l < _
  omega
theorem valD_snoc (l : List UInt8) (c : UInt8) : valD (l ++ [c]) = valD l * 10 + (c.toNat - 48) := by simp [valD]
/-- What stands behind a sign. -/
def bare (s : List UInt8) : List UInt8 := match s with
  | [] => []
  | c :: r => if c = 45 then r else c :: r
def negS (s : List UInt8) : Bool := match s with
  | [] => false
  | c :: _ => c == 45
def numS (s : List UInt8) : Int := if negS s = true then -(valD (bare s) : Int) else valD (bare s)
/-- A text is the decimal form of a number of at most 18 digits. -/
def isDec (s : List UInt8) : Bool := !(bare s).isEmpty && decide ((bare s).length ≤ 18) && (bare s).all isDig && (itoa (numS s) == s)
theorem isDec_iff {s : List UInt8} : isDec s = true ↔ bare s ≠ [] ∧ (bare s).length ≤ 18 ∧ (bare s).all isDig = true ∧ itoa (numS s) = s := by
  simp [isDec, and_assoc]
def readN (s : List UInt8) : Int × Bool := if isDec s = true then (numS s, true) else (0, false)
theorem readN_no {s : List UInt8} (h : isDec s = false) : readN s = (0, false) := by simp [readN, h]
theorem readN_yes {s : List UInt8} (h : isDec s = true) : readN s = (numS s, true) := by simp [readN, h]
theorem readN_bd (s : List UInt8) : -1000000000000000000 < (readN s).1 ∧ (readN s).1 < 1000000000000000000 := by
  rcases h : isDec s with _ | _
  · rw [readN_no h]; decide
  · obtain ⟨_, h2, h3, _⟩ := isDec_iff.1 h
    have := valD_lt h3 h2
    rw [readN_yes h]
    simp only [numS]
    split <;> omega
theorem isDec_long {s : List UInt8} (h : 18 < (bare s).length) : isDec s = false := by
  rcases hd : isDec s with _ | _
  · rfl
  · have := (isDec_iff.1 hd).2.1; omega
theorem isDec_empty {s : List UInt8} (h : bare s = []) : isDec s = false := by simp [isDec, h]
theorem isDec_bad {s : List UInt8} (h : (bare s).all isDig = false) : isDec s = false := by simp [isDec, h]
theorem isDec_odd {s : List UInt8} (h : itoa (numS s) ≠ s) : isDec s = false := by
  rcases hd : isDec s with _ | _
  · rfl
  · exact absurd (isDec_iff.1 hd).2.2.2 h
theorem bare_len (s : List UInt8) : (bare s).length ≤ s.length ∧ s.length ≤ (bare s).length + 1 := by
  cases s with
  | nil => simp [bare]
  | cons c r => simp only [bare]; split <;> simp
theorem parseM_dig : ∀ (l : List UInt8) (a k : Nat), a < 10 ^ k → k + l.length ≤ 18 → l.all isDig = true → parseUintM 18446744073709551615 a l = .ok (valF a l)
  | [], a, k, h, _, _ => rfl
  | c :: r, a, k, h, hk, hd => by
    simp only [List.all_cons, Bool.and_eq_true] at hd
    have hc := isDig_iff.1 hd.1
    have hp : 10 ^ (k + 1) ≤ 10 ^ 18 := Nat.pow_le_pow_right (by decide) (by simp at hk; omega)
    have h3 : (10 : Nat) ^ 18 = 1000000000000000000 := by decide
    have ha : a * 10 + (c.toNat - 48) < 10 ^ (k + 1) := by rw [Nat.pow_succ]; omega
    rw [parseUintM, if_pos hc, if_neg (by rw [Nat.pow_succ] at hp; omega), if_neg (by omega), parseM_dig r _ (k + 1) ha (by simp at hk; omega) hd.2]
    rfl
theorem parseM_bad : ∀ (l : List UInt8) (a k : Nat), a < 10 ^ k → k + l.length ≤ 18 → l.all isDig = false → parseUintM 18446744073709551615 a l = NumEnd.syntax
  | [], a, k, h, _, hd => by simp at hd
  | c :: r, a, k, h, hk, hd => by
    rcases hc : isDig c with _ | _
    · rw [parseUintM, if_neg (isDig_not.1 hc)]
    · have hc' := isDig_iff.1 hc
      have hp : 10 ^ (k + 1) ≤ 10 ^ 18 := Nat.pow_le_pow_right (by decide) (by simp at hk; omega)
      have h3 : (10 : Nat) ^ 18 = 1000000000000000000 := by decide
      have ha : a * 10 + (c.toNat - 48) < 10 ^ (k + 1) := by rw [Nat.pow_succ]; omega
      simp only [List.all_cons, hc, Bool.true_and] at hd
      rw [parseUintM, if_pos hc', if_neg (by rw [Nat.pow_succ] at hp; omega), if_neg (by omega), parseM_bad r _ (k + 1) ha (by simp at hk; omega) hd]
theorem decDigits_dig (u : Nat) : (decDigits u).all isDig = true := by
  induction u using Nat.strongRecOn with
  | _ u ih =>
    have one : ∀ d, d < 10 → isDig (UInt8.ofNat (48 + d)) = true := fun d hd => by
      rw [isDig_iff, UInt8.toNat_ofNat']
      omega
    by_cases h : u < 10
    · rw [decDigits, dif_pos h, List.all_cons, one u h]; rfl
    · rw [decDigits, dif_neg h]
      simp only [List.all_append, ih (u / 10) (by omega), List.all_cons, one (u % 10) (by omega), List.all_nil, Bool.and_self]
theorem decDigits_ne (u : Nat) : decDigits u ≠ [] := by
  rw [decDigits]; split <;> simp
/-- No decimal form begins with '+'. -/
theorem itoa_plus (n : Int) (r : List UInt8) : itoa n ≠ 43 :: r := by
  unfold itoa
  split
  · intro h; injection h with h; cases h
  · intro h
    have := decDigits_dig n.toNat
    rw [h] at this
    simp [isDig] at this
theorem parse_ok {s : List UInt8} (hl : (bare s).length ≤ 18) {v : Int} (h : parseIntB 64 s = .ok v) : (itoa v = s → isDec s = true ∧ numS s = v) ∧ (itoa v ≠ s → isDec s = false) := by
  cases s with
  | nil => simp [parseIntB] at h
  | cons c r =>
    by_cases hp : c.toNat = 43
    · have hc : c = 43 := by rw [← UInt8.toNat_inj]; exact hp
      subst hc
      have hno : isDec (43 :: r) = false := isDec_bad (by simp [bare, isDig])
      exact ⟨fun he => absurd he (itoa_plus v r), fun _ => hno⟩
    · by_cases hm : c.toNat = 45
      · have hc : c = 45 := by rw [← UInt8.toNat_inj]; exact hm
        subst hc
        have hb : bare (45 :: r) = r := by simp [bare]
        have hn : numS (45 :: r) = -(valD r : Int) := by simp [numS, negS, hb]
        rw [hb] at hl
        unfold parseIntB parseUintB at h
        simp only [hm, or_true, if_true] at h
        by_cases hr : r = []
        · rw [if_pos hr] at h; cases h
        · rw [if_neg hr] at h
          rcases hd : r.all isDig with _ | _
          · have := parseM_bad r 0 0 (by decide) (by omega) hd
            rw [show (2 ^ 64 - 1 : Nat) = 18446744073709551615 from rfl, this] at h
            cases h
          · have := parseM_dig r 0 0 (by decide) (by omega) hd
            have hv := valD_lt hd hl
            rw [show (2 ^ 64 - 1 : Nat) = 18446744073709551615 from rfl, this] at h
            simp only [not_true, false_and, if_false, true_and] at h
            rw [if_neg (by show ¬ (2 ^ 63 < valD r); omega)] at h
            injection h with h
            have hv' : numS (45 :: r) = v := by rw [hn]; exact h
            exact ⟨fun he => ⟨isDec_iff.2 ⟨by rw [hb]; exact hr, by rw [hb]; exact hl, by rw [hb]; exact hd, by rw [hv']; exact he⟩, hv'⟩, fun he => isDec_odd (by rw [hv']; exact he)⟩
      · have hc : c ≠ 45 := fun hh => hm (by rw [hh]; rfl)
        have hb : bare (c :: r) = c :: r := by simp [bare, hc]
        have hn : numS (c :: r) = (valD (c :: r) : Int) := by simp [numS, negS, hb, hc]
        rw [hb] at hl
        unfold parseIntB parseUintB at h
        simp only [hp, hm, or_self, if_false, false_and] at h
        rw [if_neg (by simp)] at h
        rcases hd : (c :: r).all isDig with _ | _
        · have := parseM_bad (c :: r) 0 0 (by decide) (by omega) hd
          rw [show (2 ^ 64 - 1 : Nat) = 18446744073709551615 from rfl, this] at h
          cases h
        · have := parseM_dig (c :: r) 0 0 (by decide) (by omega) hd
          have hv := valD_lt hd hl
          rw [show (2 ^ 64 - 1 : Nat) = 18446744073709551615 from rfl, this] at h
          simp only [not_false_eq_true, true_and] at h
          rw [if_neg (by show ¬ (2 ^ 63 ≤ valD (c :: r)); omega)] at h
          injection h with h
          have hv' : numS (c :: r) = v := by rw [hn]; exact h
          exact ⟨fun he => ⟨isDec_iff.2 ⟨by rw [hb]; simp, by rw [hb]; exact hl, by rw [hb]; exact hd, by rw [hv']; exact he⟩, hv'⟩, fun he => isDec_odd (by rw [hv']; exact he)⟩
theorem parse_syntax {s : List UInt8} (hl : (bare s).length ≤ 18) (h : parseIntB 64 s = NumEnd.syntax) : isDec s = false := by
  rcases hd : isDec s with _ | _
  · rfl
  · exfalso
    obtain ⟨h1, h2, h3, h4⟩ := isDec_iff.1 hd
    cases s with
    | nil => exact h1 rfl
    | cons c r =>
      by_cases hp : c.toNat = 43
      · have hc : c = 43 := by rw [← UInt8.toNat_inj]; exact hp
        subst hc
        exact itoa_plus _ _ h4
      · by_cases hm : c.toNat = 45
        · have hc : c = 45 := by rw [← UInt8.toNat_inj]; exact hm
          subst hc
          have hb : bare (45 :: r) = r := by simp [bare]
          rw [hb] at h1 h2 h3
          have := parseM_dig r 0 0 (by decide) (by omega) h3
          have hv := valD_lt h3 h2
          unfold parseIntB parseUintB at h
          simp only [hm, or_true, if_true] at h
          rw [if_neg h1, show (2 ^ 64 - 1 : Nat) = 18446744073709551615 from rfl, this] at h
          simp only [not_true, false_and, if_false, true_and] at h
          rw [if_neg (by show ¬ (2 ^ 63 < valD r); omega)] at h
          cases h
        · have hc : c ≠ 45 := fun hh => hm (by rw [hh]; rfl)
          have hb : bare (c :: r) = c :: r := by simp [bare, hc]
          rw [hb] at h1 h2 h3
          have := parseM_dig (c :: r) 0 0 (by decide) (by omega) h3
          have hv := valD_lt h3 h2
          unfold parseIntB parseUintB at h
          simp only [hp, hm, or_self, if_false, false_and] at h
          rw [if_neg h1, show (2 ^ 64 - 1 : Nat) = 18446744073709551615 from rfl, this] at h
          simp only [not_false_eq_true, true_and] at h
          rw [if_neg (by show ¬ (2 ^ 63 ≤ valD (c :: r)); omega)] at h
          cases h
theorem parse_range {s : List UInt8} (hl : (bare s).length ≤ 18) (h : parseIntB 64 s = .range) : isDec s = false := by
  rcases hd : isDec s with _ | _
  · rfl
  · exfalso
    obtain ⟨h1, h2, h3, h4⟩ := isDec_iff.1 hd
    cases s with
    | nil => exact h1 rfl
    | cons c r =>
      by_cases hp : c.toNat = 43
      · have hc : c = 43 := by rw [← UInt8.toNat_inj]; exact hp
        subst hc
        exact itoa_plus _ _ h4
      · by_cases hm : c.toNat = 45
        · have hc : c = 45 := by rw [← UInt8.toNat_inj]; exact hm
          subst hc
          have hb : bare (45 :: r) = r := by simp [bare]
          rw [hb] at h1 h2 h3
          have := parseM_dig r 0 0 (by decide) (by omega) h3
          have hv := valD_lt h3 h2
          unfold parseIntB parseUintB at h
          simp only [hm, or_true, if_true] at h
          rw [if_neg h1, show (2 ^ 64 - 1 : Nat) = 18446744073709551615 from rfl, this] at h
          simp only [not_true, false_and, if_false, true_and] at h
          rw [if_neg (by show ¬ (2 ^ 63 < valD r); omega)] at h
          cases h
        · have hc : c ≠ 45 := fun hh => hm (by rw [hh]; rfl)
          have hb : bare (c :: r) = c :: r := by simp [bare, hc]
          rw [hb] at h1 h2 h3
          have := parseM_dig (c :: r) 0 0 (by decide) (by omega) h3
          have hv := valD_lt h3 h2
          unfold parseIntB parseUintB at h
          simp only [hp, hm, or_self, if_false, false_and] at h
          rw [if_neg h1, show (2 ^ 64 - 1 : Nat) = 18446744073709551615 from rfl, this] at h
          simp only [not_false_eq_true, true_and] at h
          rw [if_neg (by show ¬ (2 ^ 63 ≤ valD (c :: r)); omega)] at h
          cases h
/-- The digits ahead of those that a loop has written. -/
def dgts (u : Nat) : List UInt8 := if u = 0 then [] else decDigits u
theorem dgts_zero : dgts 0 = [] := rfl
theorem dgts_step {u : Nat} (h : u ≠ 0) : dgts u = dgts (u / 10) ++ [UInt8.ofNat (48 + u % 10)] := by
  unfold dgts
  rw [if_neg h, decDigits]
  by_cases h1 : u < 10
  · rw [dif_pos h1, if_pos (by omega), Nat.mod_eq_of_lt h1]; rfl
  · rw [dif_neg h1, if_neg (by omega)]
theorem itoa_pos {n : Int} (h : 0 < n) : itoa n = dgts n.natAbs := by
  unfold itoa dgts
  rw [if_neg (by omega), if_neg (by omega)]
  congr 1
  omega
theorem itoa_neg {n : Int} (h : n < 0) : itoa n = 45 :: dgts n.natAbs := by
  unfold itoa dgts
  rw [if_pos h, if_neg (by omega)]
theorem itoa_zero : itoa 0 = [48] := by
  unfold itoa
  rw [if_neg (by decide), decDigits, dif_pos (by decide)]
  rfl
theorem pow_le_nDigits : ∀ (k u : Nat), k < nDigits u → 10 ^ k ≤ u ∨ k = 0
  | 0, u, _ => .inr rfl
  | k + 1, u, hu => by
    by_cases hs : u < 10
    · rw [nDigits_small hs] at hu; omega
    · rw [nDigits_big hs] at hu
      rcases pow_le_nDigits k (u / 10) (by omega) with h | h
      · left; rw [Nat.pow_succ]; omega
      · subst h; left; omega
theorem dgts_len {u : Nat} (h : u < 10000000000000000000) : (dgts u).length ≤ 19 := by
  unfold dgts
  split
  · simp
  · rw [decDigits_eq, List.length_map, List.length_range]
    rcases Nat.lt_or_ge 19 (nDigits u) with h1 | h1
    · exfalso
      rcases pow_le_nDigits 19 u h1 with h | h
      · have h3 : (10 : Nat) ^ 19 = 10000000000000000000 := by decide
        omega
      · cases h
    · exact h1
theorem itoa_len {n : Int} (h0 : -9223372036854775808 ≤ n) (h1 : n ≤ 9223372036854775807) : (itoa n).length ≤ 20 := by
  rcases Int.lt_trichotomy n 0 with h | h | h
  · rw [itoa_neg h]; have := dgts_len (u := n.natAbs) (by omega); simp; omega
  · subst h; rw [itoa_zero]; decide
  · rw [itoa_pos h]; have := dgts_len (u := n.natAbs) (by omega); omega
theorem decDigits_len {u : Nat} (h : u < 1000000000000000000) : (decDigits u).length ≤ 18 := by
  rw [decDigits_eq, List.length_map, List.length_range]
  rcases Nat.lt_or_ge 18 (nDigits u) with h1 | h1
  · exfalso
    rcases pow_le_nDigits 18 u h1 with h2 | h2
    · have h3 : (10 : Nat) ^ 18 = 1000000000000000000 := by decide
      omega
    · cases h2
  · exact h1
theorem valD_digits (u : Nat) : valD (decDigits u) = u := by
  induction u using Nat.strongRecOn with
  | _ u ih =>
    have one : ∀ d, d < 10 → (UInt8.ofNat (48 + d)).toNat = 48 + d := fun d hd => by rw [UInt8.toNat_ofNat']; omega
    by_cases h : u < 10
    · rw [decDigits, dif_pos h]
      show 0 * 10 + ((UInt8.ofNat (48 + u)).toNat - 48) = u
      rw [one u h]; omega
    · rw [decDigits, dif_neg h, valD_snoc, ih (u / 10) (by omega), one (u % 10) (by omega)]
      omega
theorem dig_not_minus {c : UInt8} {r l : List UInt8} (hl : l.all isDig = true) (h : l = c :: r) : c ≠ 45 := by
  subst h
  intro e
  subst e
  simp [isDig] at hl
theorem bare_dig {l : List UInt8} (hl : l.all isDig = true) : bare l = l ∧ negS l = false := by
  cases l with
  | nil => exact ⟨rfl, rfl⟩
  | cons c r =>
    have := dig_not_minus hl rfl
    exact ⟨by simp [bare, this], by simp [negS, this]⟩
theorem isDec_itoa {n : Int} (h0 : -1000000000000000000 < n) (h1 : n < 1000000000000000000) : isDec (itoa n) = true ∧ numS (itoa n) = n := by
  by_cases hn : n < 0
  · have e : itoa n = 45 :: decDigits n.natAbs := by unfold itoa; rw [if_pos hn]
    have hb : bare (itoa n) = decDigits n.natAbs := by rw [e]; simp [bare]
    have hv : numS (itoa n) = n := by
      unfold numS
      rw [hb, e]
      simp only [negS, beq_self_eq_true, if_true, valD_digits]
      omega
    refine ⟨isDec_iff.2 ⟨by rw [hb]; exact decDigits_ne _, by rw [hb]; exact decDigits_len (by omega), by rw [hb]; exact decDigits_dig _, by rw [hv]⟩, hv⟩
  · have e : itoa n = decDigits n.toNat := by unfold itoa; rw [if_neg hn]
    obtain ⟨hb, hs⟩ := bare_dig (decDigits_dig n.toNat)
    have hv : numS (itoa n) = n := by
      unfold numS
      rw [e, hb, hs]
      simp only [Bool.false_eq_true, if_false, valD_digits]
      omega
    refine ⟨isDec_iff.2 ⟨by rw [e, hb]; exact decDigits_ne _, by rw [e, hb]; exact decDigits_len (by omega), by rw [e, hb]; exact decDigits_dig _, by rw [hv]⟩, hv⟩
theorem itoa_numS {s : List UInt8} (h : isDec s = true) : itoa (numS s) = s := (isDec_iff.1 h).2.2.2
end Go.Proofs.YtjmlcobbjpmjpaaGreatDoor
namespace Go.Proofs.YtjmlcobbjpmjpaaGreatDoor
open Go.Lib

def splitL (c : UInt8) : List UInt8 → List (List UInt8)
  | [] => [[]]
  | x :: r => if x = c then [] :: splitL c r else match splitL c r with
    | [] => [[x]]
    | h :: t => (x :: h) :: t
theorem splitL_none {c : UInt8} : ∀ {l : List UInt8}, c ∉ l → splitL c l = [l]
  | [], _ => rfl
  | x :: r, h => by
    simp only [List.mem_cons, not_or] at h
    rw [splitL, if_neg (fun e => h.1 e.symm), splitL_none h.2]
theorem splitL_hit {c : UInt8} {r : List UInt8} : ∀ {a : List UInt8}, c ∉ a → splitL c (a ++ c :: r) = a :: splitL c r
  | [], _ => by simp [splitL]
  | x :: a, h => by
    simp only [List.mem_cons, not_or] at h
    rw [List.cons_append, splitL, if_neg (fun e => h.1 e.symm), splitL_hit h.2]
theorem splitL_len (c : UInt8) : ∀ l : List UInt8, (splitL c l).length = l.count c + 1
  | [] => rfl
  | x :: r => by
    have ih := splitL_len c r
    rw [splitL]
    by_cases h : x = c
    · subst h
      rw [if_pos rfl, List.length_cons, ih]
      simp
    · rw [if_neg h, List.count_cons_of_ne (by simpa using h)]
      revert ih
      cases splitL c r with
      | nil => intro ih; simp at ih
      | cons y t => intro ih; simpa using ih
theorem index_one (c : UInt8) : ∀ l : List UInt8, (index l [c] = -1 ∧ c ∉ l) ∨ ∃ a r, l = a ++ c :: r ∧ c ∉ a ∧ index l [c] = a.length
  | [] => .inl ⟨by simp [index], by simp⟩
  | b :: l => by
    by_cases h : c = b
    · subst h
      exact .inr ⟨[], l, rfl, by simp, by simp [index]⟩
    · have hp : ([c] : List UInt8).isPrefixOf (b :: l) = false := by simp [List.isPrefixOf, h]
      rcases index_one c l with ⟨h1, h2⟩ | ⟨a, r, rfl, h2, h3⟩
      · exact .inl ⟨by rw [index, hp, h1]; rfl, by simp [h, h2]⟩
      · refine .inr ⟨b :: a, r, rfl, by simp [h, h2], ?_⟩
        rw [index, hp, h3]
        rw [if_neg (by simp), if_neg (by simp)]
        simp
theorem splitK_ge (c : UInt8) : ∀ (k : Nat) (l : List UInt8), l.count c ≤ k → splitK [c] 0 k l = splitL c l
  | 0, l, h => by
    have : c ∉ l := by rw [← List.count_pos_iff]; omega
    rw [splitL_none this]; rfl
  | k + 1, l, h => by
    rw [splitK]
    rcases index_one c l with ⟨h1, h2⟩ | ⟨a, r, rfl, h2, h3⟩
    · rw [h1, splitL_none h2]; rfl
    · rw [h3, if_neg (by simp), splitL_hit h2]
      have hc : (a ++ c :: r).count c = r.count c + 1 := by
        rw [List.count_append, List.count_eq_zero.2 h2]; simp
      have e1 : ((a.length : Int)).toNat = a.length := by omega
      rw [e1, Nat.add_zero, List.take_left, List.length_singleton]
      have e2 : (a ++ c :: r).drop (a.length + 1) = r := by
        rw [← List.drop_drop, List.drop_left]; rfl
      rw [e2, splitK_ge c k r (by omega)]
theorem splitK_len (c : UInt8) : ∀ (k : Nat) (l : List UInt8), k ≤ l.count c → (splitK [c] 0 k l).length = k + 1
  | 0, l, _ => rfl
  | k + 1, l, h => by
    rw [splitK]
    rcases index_one c l with ⟨h1, h2⟩ | ⟨a, r, rfl, h2, h3⟩
    · rw [List.count_eq_zero.2 h2] at h; omega
    · rw [h3, if_neg (by simp)]
      have hc : (a ++ c :: r).count c = r.count c + 1 := by
        rw [List.count_append, List.count_eq_zero.2 h2]; simp
      have e1 : ((a.length : Int)).toNat = a.length := by omega
      rw [e1, List.length_singleton]
      have e2 : (a ++ c :: r).drop (a.length + 1) = r := by
        rw [← List.drop_drop, List.drop_left]; rfl
      rw [e2, List.length_cons, splitK_len c k r (by omega)]
def asBytes (l : List UInt8) : ByteArray := ⟨l.toArray⟩
theorem asBytes_data (s : ByteArray) : asBytes s.data.toList = s := by simp [asBytes]
theorem data_asBytes (l : List UInt8) : (asBytes l).data.toList = l := by simp [asBytes]
theorem asBytes_size (l : List UInt8) : (asBytes l).size = l.length := by simp [asBytes, ByteArray.size]
/-- The parts of a text between bytes c. -/
def splitS (c : UInt8) (s : ByteArray) : List ByteArray := (splitL c s.data.toList).map asBytes
theorem splitS_len (c : UInt8) (s : ByteArray) : (splitS c s).length = s.data.toList.count c + 1 := by simp [splitS, splitL_len]
theorem of_data {xs : List ByteArray} {ys : List (List UInt8)} (h : xs.map (·.data.toList) = ys) : xs = ys.map asBytes := by
  rw [← h, List.map_map]
  have : (asBytes ∘ fun x : ByteArray => x.data.toList) = id := by funext x; exact asBytes_data x
  rw [this, List.map_id]
theorem countB_one (c : UInt8) (s : ByteArray) : countB s ⟨#[c]⟩ = s.data.toList.count c := by
  rw [countB, show (⟨#[c]⟩ : ByteArray).data.toList = [c] from rfl, count_one]
theorem splitB_one (c : UInt8) (s : ByteArray) : splitB ⟨#[c]⟩ 0 (countB s ⟨#[c]⟩) s = splitS c s := by
  have h := splitB_data ⟨#[c]⟩ 0 (countB s ⟨#[c]⟩) s
  rw [of_data h, show (⟨#[c]⟩ : ByteArray).data.toList = [c] from rfl, splitK_ge c _ _ (by rw [countB_one]; exact Nat.le_refl _)]
  rfl
/-- Cut at the first two bytes c alone: two parts just where there are two parts. -/
theorem splitB_two (c : UInt8) (s : ByteArray) (k : Nat) (hk : k = min 3 (s.size + 1) - 1) : ((splitB ⟨#[c]⟩ 0 k s).length = 2 → splitB ⟨#[c]⟩ 0 k s = splitS c s ∧ (splitS c s).length = 2) ∧ ((splitB ⟨#[c]⟩ 0 k s).length ≠ 2 → (splitS c s).length ≠ 2) := by
  have h := splitB_data ⟨#[c]⟩ 0 k s
  have hx := of_data h
  rw [show (⟨#[c]⟩ : ByteArray).data.toList = [c] from rfl] at hx
  have hcl : s.data.toList.count c ≤ s.size := by
    have := List.count_le_length (a := c) (l := s.data.toList)
    rw [Array.length_toList] at this
    exact this
  by_cases hc : s.data.toList.count c ≤ k
  · rw [splitK_ge c k _ hc] at hx
    have hx' : splitB ⟨#[c]⟩ 0 k s = splitS c s := hx
    rw [hx']
    exact ⟨fun h => ⟨rfl, h⟩, fun h => h⟩
  · have hl : (splitB ⟨#[c]⟩ 0 k s).length = k + 1 := by
      rw [hx, List.length_map, splitK_len c k _ (by omega)]
    have hk2 : k = 2 := by
      rw [hk] at hc ⊢
      simp only [Nat.min_def] at hc ⊢
      split at hc <;> rename_i h' <;> simp only [h', if_true, if_false] <;> omega
    rw [hl, hk2, splitS_len]
    exact ⟨fun h => by omega, fun h => by omega⟩
/-- The parts put together again. -/
def joinL (c : UInt8) : List (List UInt8) → List UInt8
  | [] => []
  | [x] => x
  | x :: y :: r => x ++ c :: joinL c (y :: r)
theorem splitL_ne (c : UInt8) (l : List UInt8) : splitL c l ≠ [] := by
  intro h
  have := splitL_len c l
  rw [h] at this
  cases this
theorem joinL_splitL (c : UInt8) : ∀ l : List UInt8, joinL c (splitL c l) = l
  | [] => rfl
  | x :: r => by
    have ih := joinL_splitL c r
    rw [splitL]
    by_cases h : x = c
    · subst h
      rw [if_pos rfl]
      have hne := splitL_ne x r
      revert ih hne
      cases splitL x r with
      | nil => intro _ hne; exact absurd rfl hne
      | cons y t => intro ih _; simp only [joinL]; rw [ih]; rfl
    · rw [if_neg h]
      have hne := splitL_ne c r
      revert ih hne
      cases splitL c r with
      | nil => intro _ hne; exact absurd rfl hne
      | cons y t =>
        intro ih _
        cases t with
        | nil => simp only [joinL] at ih ⊢; rw [ih]
        | cons z u => simp only [joinL] at ih ⊢; rw [List.cons_append, ih]
theorem splitL_mem (c : UInt8) : ∀ (l x : List UInt8), x ∈ splitL c l → c ∉ x
  | [], x, h => by simp [splitL] at h; subst h; simp
  | y :: r, x, h => by
    have ih := splitL_mem c r
    rw [splitL] at h
    by_cases hy : y = c
    · rw [if_pos hy, List.mem_cons] at h
      rcases h with rfl | h
      · simp
      · exact ih x h
    · rw [if_neg hy] at h
      revert ih h
      cases splitL c r with
      | nil => intro h ih; simp at h; subst h; simpa using fun e => hy e.symm
      | cons a t =>
        intro h ih
        rw [List.mem_cons] at h
        rcases h with rfl | h
        · have := ih a (by simp)
          simp only [List.mem_cons, not_or]
          exact ⟨fun e => hy e.symm, this⟩
        · exact ih x (by simp [h])
end Go.Proofs.YtjmlcobbjpmjpaaGreatDoor
namespace Go.Proofs.YtjmlcobbjpmjpaaGreatDoor
open Go.RowKit Go.Lib

theorem info_u8 : (Tryz.prog.info? 5).map (fun i => (i.zero, i.size, i.bytes)) = some (some (.int .u8 0), 1, 1) := by kernel_rfl
def bytesV (l : List UInt8) : List Value := l.map fun c => .int .u8 (c.toNat : Int)
theorem bytesV_len (l : List UInt8) : (bytesV l).length = l.length := by simp [bytesV]
theorem bytesV_one (l : List UInt8) : ∀ u ∈ bytesV l, u.oneCell' = true := by
  intro u hu
  simp only [bytesV, List.mem_map] at hu
  obtain ⟨c, _, rfl⟩ := hu
  rfl
theorem asBytes_app (a b : List UInt8) : asBytes a ++ asBytes b = asBytes (a ++ b) := by
  apply ByteArray.ext
  simp [asBytes, ByteArray.data_append]
theorem dig_cast {d : Nat} (h : d < 10) : ((UInt8.ofNat (48 + d)).toNat : Int) = 48 + (d : Int) := by
  have : (UInt8.ofNat (48 + d)).toNat = 48 + d := by rw [UInt8.toNat_ofNat']; omega
  rw [this]; omega

set_option maxHeartbeats 4000000 in
set_option maxRecDepth 100000 in
theorem decPos_any (n : Int) (w : World) (h0 : 0 < n) (h1 : n ≤ 9223372036854775807) :
    Calls Tryz.prog 85 #[.int .i64 n] w fun e w' => e = .returned (.string (asBytes (itoa n))) ∧ Below w.heap.size w w' := by
  obtain ⟨p, rfl⟩ : ∃ p : Nat, n = (p : Int) := ⟨n.toNat, by omega⟩
  have hit := Lib.hid (itoa_pos h0)
  have hneg : decide ((p : Int) < 0) = false := decide_eq_false (by omega)
  go_enter Tryz.func85, Tryz.ntmps85
  go_wp2
  go_loopw [3, 4, 5] (fun s k _ wr => ∃ (q : Nat) (ds : List UInt8) (g c : Nat), s = .slice (some ⟨g, 0, none⟩) ds.length c ∧ k = .int .i64 (q : Int) ∧ q ≤ p ∧ dgts p = dgts q ++ ds ∧ Sl wr w.heap.size wr.heap.size 5 1 (some ⟨g, 0, none⟩) ds.length c (bytesV ds) ∧ Below w.heap.size w wr) (fun _ k _ _ => (intOf k).toNat)
  case atStart => exact ⟨p, [], _, _, rfl, rfl, Nat.le_refl _, by simp, (Sl.made w 5 1).wide (Nat.le_refl _) (by simp), (Below.refl _ _).alloc (Nat.le_refl _) _⟩
  case round =>
    obtain ⟨q, ds, g, c, rfl, rfl, hq, hd, hs, hbel⟩ := hrel
    have hlen : ds.length ≤ 19 := by
      have h9 := dgts_len (u := p) (by omega)
      rw [hd, List.length_append] at h9
      omega
    have HD := Lib.hid hd
    have HB := Lib.hid hbel
    have zr := hbel.size
    by_cases hq0 : q = 0
    · subst hq0
      have hds : ds.length ≠ 0 := by
        intro h9
        rw [List.length_eq_zero_iff.1 h9, dgts_zero] at hd
        have := dgts_step (u := p) (by omega)
        rw [hd] at this
        simp at this
      have hds1 : decide (((ds.length : Nat) : Int) = 0) = false := decide_eq_false (by omega)
      have hds2 : ((ds.length : Int) == 0) = false := by rw [beq_eq_false_iff_ne]; omega
      have hdd : dgts p = ds := by rw [hd, dgts_zero]; rfl
      have hcv := run_convert_bytes_back (P := Tryz.prog) wr 22 9 5 ⟨g, 0, none⟩ c ds Tryz.underlying22 Tryz.underlying5 Tryz.underlying9 (fun j hj => by
        rw [add_plain, Nat.zero_add, hs.cellAt j (by rw [Nat.mul_one]; exact hj)]
        simp [bytesV, hj])
      have HR := Lib.hid (show itoa (p : Int) = ds by rw [hit.out]; simpa using hdd)
      clear hd hdd hs hbel HD
      go_wp2
      go_ret
      exact ⟨by rw [HR.out]; rfl, HB.out⟩
    · have hq1 : ((q : Int) == 0) = false := by simp; omega
      have hq2 : (0 : Int) < q := by omega
      have hq3 : (q : Int) ≤ 9223372036854775807 := by omega
      have hlow : decide ((q : Int) % 10 < 0) = false := decide_eq_false (by omega)
      have hst := Lib.hid (dgts_step hq0)
      have hdc := Lib.hid (dig_cast (d := q % 10) (by omega))
      have hc8 : IntKind.u8.wrap (48 + (q : Int) % 10) = 48 + (q : Int) % 10 := by
        unfold IntKind.wrap; simp [IntKind.bits, IntKind.signed]; omega
      have hsn := Lib.hid (Sl.on hs ((Below.refl wr.heap.size wr).alloc (Nat.le_refl _) (.cells #[.int .u8 (48 + (q : Int) % 10)] 5)))
      have acc0 := Lib.hid (Acc.start (b0 := wr.heap.size) (Sl.of_blk (lo := wr.heap.size) (hi := wr.heap.size + 1) (size := 1) (n := 1) (Blk.new wr 5 #[.int .u8 (48 + (q : Int) % 10)]) (Nat.le_refl _) (Nat.lt_succ_self _) rfl (by unfold maxLen; omega)) (fun a ha => by injection ha with ha; subst ha; rfl) (wr.heap.size + 1))
      clear hd hs hbel
      go_wp2_with (at_builtin; refine wpList_accMany rfl _ _ 22 rfl 5 _ 1 1 Tryz.underlying22 info_u8 rfl (by decide) (by decide) acc0.out (by simp) rfl g 0 ds.length c (bytesV ds) rfl (by rw [bytesV_len]; omega) (fun j u hu => by rw [Nat.zero_add, hsn.out.cellAt j (by have := (List.getElem?_eq_some_iff.1 hu).1; rw [bytesV_len] at this; omega)]; exact hu) (bytesV_one ds) (by omega) ?_; intro A2 d2 w9 hacc2; rw [Nat.add_comm 1 ds.length] at hacc2; rw [Nat.add_comm 1 ds.length]; have HA2 := Lib.hid hacc2; clear hacc2)
      have s2 := HA2.out.sl (lo := w.heap.size) (by omega) (by omega)
      obtain ⟨g2, rfl, _, _, _⟩ := s2.lt (by omega)
      have HF := Lib.hid ((HB.out.alloc zr (.cells #[.int .u8 (48 + (q : Int) % 10)] 5)).trans (HA2.out.below (by omega) (by omega)))
      have HS2 := Lib.hid s2
      clear s2
      go_wp2
      go_roundw
      case rel =>
        have he : [Value.int .u8 (48 + (q : Int) % 10)] ++ bytesV ds = bytesV (UInt8.ofNat (48 + q % 10) :: ds) := by
          show _ = Value.int .u8 _ :: bytesV ds
          rw [hdc.out]
          rfl
        have h9 := HS2.out
        rw [he] at h9
        exact ⟨q / 10, _ :: ds, g2, d2, rfl, by go_num, by omega, by rw [HD.out, hst.out, List.append_assoc]; rfl, h9, HF.out⟩
      case measure => simp [intOf]; omega

set_option maxHeartbeats 4000000 in
set_option maxRecDepth 100000 in
theorem decNeg_any (n : Int) (w : World) (h0 : n < 0) (h1 : -9223372036854775808 ≤ n) :
    Calls Tryz.prog 85 #[.int .i64 n] w fun e w' => e = .returned (.string (asBytes (itoa n))) ∧ Below w.heap.size w w' := by
  obtain ⟨p, rfl⟩ : ∃ p : Nat, n = -(p : Int) := ⟨n.natAbs, by omega⟩
  have hit := Lib.hid (show itoa (-(p : Int)) = 45 :: dgts p by rw [itoa_neg h0, Int.natAbs_neg]; rfl)
  have hneg : (0 : Int) < p := by omega
  go_enter Tryz.func85, Tryz.ntmps85
  go_wp2
  go_loopw [3, 4, 5] (fun s k _ wr => ∃ (q : Nat) (ds : List UInt8) (g c : Nat), s = .slice (some ⟨g, 0, none⟩) ds.length c ∧ k = .int .i64 (-(q : Int)) ∧ q ≤ p ∧ dgts p = dgts q ++ ds ∧ Sl wr w.heap.size wr.heap.size 5 1 (some ⟨g, 0, none⟩) ds.length c (bytesV ds) ∧ Below w.heap.size w wr) (fun _ k _ _ => (-(intOf k)).toNat)
  case atStart => exact ⟨p, [], _, _, rfl, rfl, Nat.le_refl _, by simp, (Sl.made w 5 1).wide (Nat.le_refl _) (by simp), (Below.refl _ _).alloc (Nat.le_refl _) _⟩
  case round =>
    obtain ⟨q, ds, g, c, rfl, rfl, hq, hd, hs, hbel⟩ := hrel
    have hlen : ds.length ≤ 19 := by
      have h9 := dgts_len (u := p) (by omega)
      rw [hd, List.length_append] at h9
      omega
    have HD := Lib.hid hd
    have HB := Lib.hid hbel
    have zr := hbel.size
    by_cases hq0 : q = 0
    · subst hq0
      have hds : ds.length ≠ 0 := by
        intro h9
        rw [List.length_eq_zero_iff.1 h9, dgts_zero] at hd
        have := dgts_step (u := p) (by omega)
        rw [hd] at this
        simp at this
      have hds1 : decide (((ds.length : Nat) : Int) = 0) = false := decide_eq_false (by omega)
      have hds2 : ((ds.length : Int) == 0) = false := by rw [beq_eq_false_iff_ne]; omega
      have hdd : dgts p = ds := by rw [hd, dgts_zero]; rfl
      have hcv := run_convert_bytes_back (P := Tryz.prog) wr 22 9 5 ⟨g, 0, none⟩ c ds Tryz.underlying22 Tryz.underlying5 Tryz.underlying9 (fun j hj => by
        rw [add_plain, Nat.zero_add, hs.cellAt j (by rw [Nat.mul_one]; exact hj)]
        simp [bytesV, hj])
      have HR := Lib.hid (show itoa (-(p : Int)) = [45] ++ ds by rw [hit.out, hdd]; rfl)
      clear hd hdd hs hbel HD
      go_wp2
      go_ret
      exact ⟨by rw [HR.out, ← asBytes_app]; rfl, HB.out⟩
    · have hq1 : (-(q : Int) == 0) = false := by rw [beq_eq_false_iff_ne]; omega
      have hq4 : ¬ (-(q : Int) = 0) := by omega
      have hq2 : (0 : Int) < q := by omega
      have hq3 : (q : Int) ≤ 9223372036854775808 := by omega
      by_cases hz : (q : Int) % 10 = 0
      · have hz0 := hz
        have hrm : (-(q : Int)).tmod 10 = 0 := by rw [Int.neg_tmod, Int.tmod_eq_emod_of_nonneg (by omega), hz]; rfl
        have hqu : (-(q : Int)).tdiv 10 = -((q : Int) / 10) := by rw [Int.neg_tdiv, Int.tdiv_eq_ediv_of_nonneg (by omega)]
        have hst := Lib.hid (dgts_step hq0)
        have hdc := Lib.hid (dig_cast (d := q % 10) (by omega))
        have hsn := Lib.hid (Sl.on hs ((Below.refl wr.heap.size wr).alloc (Nat.le_refl _) (.cells #[.int .u8 48] 5)))
        have acc0 := Lib.hid (Acc.start (b0 := wr.heap.size) (Sl.of_blk (lo := wr.heap.size) (hi := wr.heap.size + 1) (size := 1) (n := 1) (Blk.new wr 5 #[.int .u8 48]) (Nat.le_refl _) (Nat.lt_succ_self _) rfl (by unfold maxLen; omega)) (fun a ha => by injection ha with ha; subst ha; rfl) (wr.heap.size + 1))
        have HZ := Lib.hid hz
        clear hd hs hbel hz hz0
        go_wp2_with (at_builtin; refine wpList_accMany rfl _ _ 22 rfl 5 _ 1 1 Tryz.underlying22 info_u8 rfl (by decide) (by decide) acc0.out (by simp) rfl g 0 ds.length c (bytesV ds) rfl (by rw [bytesV_len]; omega) (fun j u hu => by rw [Nat.zero_add, hsn.out.cellAt j (by have := (List.getElem?_eq_some_iff.1 hu).1; rw [bytesV_len] at this; omega)]; exact hu) (bytesV_one ds) (by omega) ?_; intro A2 d2 w9 hacc2; rw [Nat.add_comm 1 ds.length] at hacc2; rw [Nat.add_comm 1 ds.length]; have HA2 := Lib.hid hacc2; clear hacc2)
        have s2 := HA2.out.sl (lo := w.heap.size) (by omega) (by omega)
        obtain ⟨g2, rfl, _, _, _⟩ := s2.lt (by omega)
        have HF := Lib.hid ((HB.out.alloc zr (.cells #[.int .u8 48] 5)).trans (HA2.out.below (by omega) (by omega)))
        have HS2 := Lib.hid s2
        clear s2
        go_wp2
        go_roundw
        case rel =>
          have he : [Value.int .u8 48] ++ bytesV ds = bytesV (UInt8.ofNat (48 + q % 10) :: ds) := by
            show _ = Value.int .u8 _ :: bytesV ds
            rw [hdc.out, show ((q % 10 : Nat) : Int) = 0 by have := HZ.out; omega]
            rfl
          have h9 := HS2.out
          rw [he] at h9
          exact ⟨q / 10, _ :: ds, g2, d2, rfl, by rw [Int.natCast_ediv]; rfl, by omega, by rw [HD.out, hst.out, List.append_assoc]; rfl, h9, HF.out⟩
        case measure => simp [intOf]; omega
      · have hz1 : 0 < (q : Int) % 10 := by omega
        have hrm : (-(q : Int)).tmod 10 = -((q : Int) % 10) := by rw [Int.neg_tmod, Int.tmod_eq_emod_of_nonneg (by omega)]
        have hqu : (-(q : Int)).tdiv 10 = -((q : Int) / 10) := by rw [Int.neg_tdiv, Int.tdiv_eq_ediv_of_nonneg (by omega)]
        have hst := Lib.hid (dgts_step hq0)
        have hdc := Lib.hid (dig_cast (d := q % 10) (by omega))
        have hc8 : IntKind.u8.wrap (48 + (q : Int) % 10) = 48 + (q : Int) % 10 := by
          unfold IntKind.wrap; simp [IntKind.bits, IntKind.signed]; omega
        have hsn := Lib.hid (Sl.on hs ((Below.refl wr.heap.size wr).alloc (Nat.le_refl _) (.cells #[.int .u8 (48 + (q : Int) % 10)] 5)))
        have acc0 := Lib.hid (Acc.start (b0 := wr.heap.size) (Sl.of_blk (lo := wr.heap.size) (hi := wr.heap.size + 1) (size := 1) (n := 1) (Blk.new wr 5 #[.int .u8 (48 + (q : Int) % 10)]) (Nat.le_refl _) (Nat.lt_succ_self _) rfl (by unfold maxLen; omega)) (fun a ha => by injection ha with ha; subst ha; rfl) (wr.heap.size + 1))
        clear hd hs hbel
        go_wp2_with (at_builtin; refine wpList_accMany rfl _ _ 22 rfl 5 _ 1 1 Tryz.underlying22 info_u8 rfl (by decide) (by decide) acc0.out (by simp) rfl g 0 ds.length c (bytesV ds) rfl (by rw [bytesV_len]; omega) (fun j u hu => by rw [Nat.zero_add, hsn.out.cellAt j (by have := (List.getElem?_eq_some_iff.1 hu).1; rw [bytesV_len] at this; omega)]; exact hu) (bytesV_one ds) (by omega) ?_; intro A2 d2 w9 hacc2; rw [Nat.add_comm 1 ds.length] at hacc2; rw [Nat.add_comm 1 ds.length]; have HA2 := Lib.hid hacc2; clear hacc2)
        have s2 := HA2.out.sl (lo := w.heap.size) (by omega) (by omega)
        obtain ⟨g2, rfl, _, _, _⟩ := s2.lt (by omega)
        have HF := Lib.hid ((HB.out.alloc zr (.cells #[.int .u8 (48 + (q : Int) % 10)] 5)).trans (HA2.out.below (by omega) (by omega)))
        have HS2 := Lib.hid s2
        clear s2
        go_wp2
        go_roundw
        case rel =>
          have he : [Value.int .u8 (48 + (q : Int) % 10)] ++ bytesV ds = bytesV (UInt8.ofNat (48 + q % 10) :: ds) := by
            show _ = Value.int .u8 _ :: bytesV ds
            rw [hdc.out]
            rfl
          have h9 := HS2.out
          rw [he] at h9
          exact ⟨q / 10, _ :: ds, g2, d2, rfl, by rw [Int.natCast_ediv]; rfl, by omega, by rw [HD.out, hst.out, List.append_assoc]; rfl, h9, HF.out⟩
        case measure => simp [intOf]; omega
set_option maxHeartbeats 2000000 in
set_option maxRecDepth 100000 in
theorem l01Dec_any (n : Int) (w : World) (h0 : -9223372036854775808 ≤ n) (h1 : n ≤ 9223372036854775807) :
    Calls Tryz.prog 85 #[.int .i64 n] w fun e w' => e = .returned (.string (asBytes (itoa n))) ∧ Below w.heap.size w w' := by
  rcases Int.lt_trichotomy n 0 with h | h | h
  · exact decNeg_any n w h h0
  · subst h
    rw [itoa_zero]
    go_enter Tryz.func85, Tryz.ntmps85
    go_wp2
    go_loopw [3, 4] (fun s k wr => s = .slice (some ⟨w.heap.size, 0, none⟩) 0 0 ∧ k = .int .i64 0 ∧ Below w.heap.size w wr) (fun _ k _ => (intOf k).toNat)
    case atStart => exact ⟨rfl, rfl, (Below.refl _ _).alloc (Nat.le_refl _) _⟩
    case round =>
      obtain ⟨rfl, rfl, hbel⟩ := hrel
      go_wp2
      go_ret
      exact ⟨rfl, hbel⟩
  · exact decPos_any n w h h1
end Go.Proofs.YtjmlcobbjpmjpaaGreatDoor
namespace Go.Proofs.YtjmlcobbjpmjpaaGreatDoor
open Go.RowKit Go.Lib

def TabP (w : World) : Prop := Lib.TabIs Tryz.prog w "internal/strconv.uint64pow10" .u64 Lib.pow10Tab
theorem tabUp {w w' : World} (h : TabP w) (hb : Below w.heap.size w w') : TabP w' := by
  unfold TabP Lib.TabIs World.var? at h ⊢
  cases hg : Tryz.prog.globalNamed "internal/strconv.uint64pow10" with
  | none => rw [hg] at h; cases h
  | some g =>
    rw [hg] at h
    simp only [Option.bind_some] at h ⊢
    have hlt : g < w.heap.size := by
      rcases Nat.lt_or_ge g w.heap.size with h' | h'
      · exact h'
      · rw [Array.getElem?_eq_none h'] at h; cases h
    rw [hb.block g hlt]
    exact h
theorem below_grow (w : World) (k : Nat) (os : Array Obj) : Below w.heap.size w (Sort.grow (w.drewN k) os) :=
  ⟨rfl, rfl, rfl, by simp, fun q hq => Sort.heap_grow_old (w.drewN k) os hq⟩
theorem decimal_any (n : Int) (w : World) (h0 : -9223372036854775808 ≤ n) (h1 : n ≤ 9223372036854775807) (ht : TabP w) :
    Calls Tryz.prog 84 #[.int .i64 n] w fun e w' => e = .returned (.string (asBytes (itoa n))) ∧ Below w.heap.size w w' := by
  go_enter Tryz.func84, Tryz.ntmps84
  go_wp2_with fail
  refine (Tryz.strconv_FormatInt_10 n h0 h1 _ ht).mono ?_
  rintro e w1 ⟨rfl, k, os, rfl⟩
  have hb := Lib.hid (below_grow w k os)
  obtain ⟨w1, hw1⟩ : ∃ y, Sort.grow (w.drewN k) os = y := ⟨_, rfl⟩
  rw [hw1] at hb ⊢
  clear hw1
  go_wp2
  go_ret
  exact ⟨rfl, hb.out⟩
end Go.Proofs.YtjmlcobbjpmjpaaGreatDoor
namespace Go.Proofs.YtjmlcobbjpmjpaaGreatDoor
open Go.RowKit Go.Lib

def textBk (x : Bk) : ByteArray := if okBk x = true then (if x.amount < 0 then asBytes (itoa x.day) ++ ⟨#[58, 32]⟩ ++ x.client ++ ⟨#[32, 112, 97, 121, 115, 32]⟩ ++ asBytes (itoa (-x.amount)) else asBytes (itoa x.day) ++ ⟨#[58, 32]⟩ ++ x.client ++ ⟨#[32, 111, 119, 101, 115, 32]⟩ ++ asBytes (itoa x.amount)) else ⟨#[]⟩
theorem textBk_no {x : Bk} (h : okBk x = false) : textBk x = ⟨#[]⟩ := by simp [textBk, h]
theorem textBk_pay {x : Bk} (h : okBk x = true) (ha : x.amount < 0) : textBk x = asBytes (itoa x.day) ++ ⟨#[58, 32]⟩ ++ x.client ++ ⟨#[32, 112, 97, 121, 115, 32]⟩ ++ asBytes (itoa (-x.amount)) := by simp only [textBk, h, ha, if_true]
theorem textBk_owe {x : Bk} (h : okBk x = true) (ha : ¬ x.amount < 0) : textBk x = asBytes (itoa x.day) ++ ⟨#[58, 32]⟩ ++ x.client ++ ⟨#[32, 111, 119, 101, 115, 32]⟩ ++ asBytes (itoa x.amount) := by simp only [textBk, h, ha, if_true, if_false]

set_option maxHeartbeats 4000000 in
set_option maxRecDepth 100000 in
theorem implBookingText_any (x : Bk) (w : World) (hx : x.good) (ht : TabP w) :
    Calls Tryz.prog 24 #[.agg #[.int .i64 x.day, .string x.client, .int .i64 x.amount]] w fun e w' => e = .returned (.string (textBk x)) ∧ Below w.heap.size w w' := by
  have HT := Lib.hid ht
  clear ht
  rcases h1 : okBk x with _ | _
  · have HO := Lib.hid (textBk_no h1)
    go_enter Tryz.func24, Tryz.ntmps24
    go_wp2_with fail
    obtain ⟨wq, hwq⟩ : ∃ y, w.alloc (.cells #[.int .i64 x.day, .string x.client, .int .i64 x.amount] 26) = y := ⟨_, rfl⟩
    have bq : Below w.heap.size w wq := by rw [← hwq]; exact (Below.refl _ _).alloc (Nat.le_refl _) _
    have yq : Blk wq w.heap.size 26 #[.int .i64 x.day, .string x.client, .int .i64 x.amount] := by rw [← hwq]; exact Blk.new _ _ _
    rw [hwq]
    clear hwq
    refine (validBooking_any x _ hx.2.1).mono ?_
    rintro e w1 ⟨rfl, b1⟩
    have HB := Lib.hid (bnext bq b1 (Nat.le_refl _))
    clear bq b1 yq
    go_wp2
    go_ret
    exact ⟨by rw [HO.out]; rfl, HB.out⟩
  · by_cases ha : x.amount < 0
    · have HO := Lib.hid (textBk_pay h1 ha)
      obtain ⟨⟨d0, d1⟩, e1, ⟨a0, a1⟩, a2⟩ := okBk_iff.1 h1
      have hnm := (isName_len e1).2
      have hs1 : (asBytes (itoa x.day)).size ≤ 20 := by rw [asBytes_size]; exact itoa_len (by omega) (by omega)
      have hs2 : (asBytes (itoa (-x.amount))).size ≤ 20 := by rw [asBytes_size]; exact itoa_len (by omega) (by omega)
      have n1 : ¬ (9223372036854775807 < (asBytes (itoa x.day)).size + 2) := by omega
      have n2 : ¬ (9223372036854775807 < (asBytes (itoa x.day)).size + 2 + x.client.size) := by omega
      have n3 : ¬ (9223372036854775807 < (asBytes (itoa x.day)).size + 2 + x.client.size + 6) := by omega
      have n4 : ¬ (9223372036854775807 < (asBytes (itoa x.day)).size + 2 + x.client.size + 6 + (asBytes (itoa (-x.amount))).size) := by omega
      have hwn : IntKind.i64.wrap (-x.amount) = -x.amount := by rw [IntKind.wrap_i64]; omega
      go_enter Tryz.func24, Tryz.ntmps24
      go_wp2_with fail
      obtain ⟨wq, hwq⟩ : ∃ y, w.alloc (.cells #[.int .i64 x.day, .string x.client, .int .i64 x.amount] 26) = y := ⟨_, rfl⟩
      have bq : Below w.heap.size w wq := by rw [← hwq]; exact (Below.refl _ _).alloc (Nat.le_refl _) _
      have yq : Blk wq w.heap.size 26 #[.int .i64 x.day, .string x.client, .int .i64 x.amount] := by rw [← hwq]; exact Blk.new _ _ _
      rw [hwq]
      clear hwq
      refine (validBooking_any x _ hx.2.1).mono ?_
      rintro e w1 ⟨rfl, b1⟩
      have y1 := yq.on b1
      have HB := Lib.hid (bnext bq b1 (Nat.le_refl _))
      have HT1 := Lib.hid (tabUp HT.out (bnext bq b1 (Nat.le_refl _)))
      have q0 : w1.cell? ⟨w.heap.size, 0, none⟩ = some (.int .i64 x.day) := y1.cellAt 0 (by simp)
      have q1 : w1.cell? ⟨w.heap.size, 1, none⟩ = some (.string x.client) := y1.cellAt 1 (by simp)
      have q2 : w1.cell? ⟨w.heap.size, 2, none⟩ = some (.int .i64 x.amount) := y1.cellAt 2 (by simp)
      clear bq b1 yq y1
      go_wp2_with fail
      go_region_held3 (fun W => Below w1.heap.size w1 W ∧ W.cell? ⟨w.heap.size, 0, none⟩ = some (.int .i64 x.day) ∧ W.cell? ⟨w.heap.size, 1, none⟩ = some (.string x.client) ∧ W.cell? ⟨w.heap.size, 2, none⟩ = some (.int .i64 x.amount)) (first | exact ⟨(Below.refl _ _).drew, q0, q1, q2⟩ | (go_split_ands; exact ⟨bnext (by assumption) hb1 (Nat.le_refl _), cell_on hb1 (by assumption), cell_on hb1 (by assumption), cell_on hb1 (by assumption)⟩) | (go_split_ands; exact ⟨by assumption, by assumption, by assumption, by assumption⟩) | fail "keep") (first | (go_at_call 84; go_split_ands; refine (decimal_any _ _ (by omega) (by omega) (tabUp HT1.out (by assumption))).mono ?_; rintro e w2 ⟨rfl, hb1⟩) | fail "arm")
      rename_i hS
      have HF := Lib.hid (bnext HB.out hS.1 (Nat.le_refl _))
      go_wp2
      go_ret
      exact ⟨by rw [HO.out]; rfl, HF.out⟩
    · have HO := Lib.hid (textBk_owe h1 ha)
      obtain ⟨⟨d0, d1⟩, e1, ⟨a0, a1⟩, a2⟩ := okBk_iff.1 h1
      have hnm := (isName_len e1).2
      have hs1 : (asBytes (itoa x.day)).size ≤ 20 := by rw [asBytes_size]; exact itoa_len (by omega) (by omega)
      have hs2 : (asBytes (itoa (x.amount))).size ≤ 20 := by rw [asBytes_size]; exact itoa_len (by omega) (by omega)
      have n1 : ¬ (9223372036854775807 < (asBytes (itoa x.day)).size + 2) := by omega
      have n2 : ¬ (9223372036854775807 < (asBytes (itoa x.day)).size + 2 + x.client.size) := by omega
      have n3 : ¬ (9223372036854775807 < (asBytes (itoa x.day)).size + 2 + x.client.size + 6) := by omega
      have n4 : ¬ (9223372036854775807 < (asBytes (itoa x.day)).size + 2 + x.client.size + 6 + (asBytes (itoa (x.amount))).size) := by omega
      have han : decide (x.amount < 0) = false := decide_eq_false ha
      go_enter Tryz.func24, Tryz.ntmps24
      go_wp2_with fail
      obtain ⟨wq, hwq⟩ : ∃ y, w.alloc (.cells #[.int .i64 x.day, .string x.client, .int .i64 x.amount] 26) = y := ⟨_, rfl⟩
      have bq : Below w.heap.size w wq := by rw [← hwq]; exact (Below.refl _ _).alloc (Nat.le_refl _) _
      have yq : Blk wq w.heap.size 26 #[.int .i64 x.day, .string x.client, .int .i64 x.amount] := by rw [← hwq]; exact Blk.new _ _ _
      rw [hwq]
      clear hwq
      refine (validBooking_any x _ hx.2.1).mono ?_
      rintro e w1 ⟨rfl, b1⟩
      have y1 := yq.on b1
      have HB := Lib.hid (bnext bq b1 (Nat.le_refl _))
      have HT1 := Lib.hid (tabUp HT.out (bnext bq b1 (Nat.le_refl _)))
      have q0 : w1.cell? ⟨w.heap.size, 0, none⟩ = some (.int .i64 x.day) := y1.cellAt 0 (by simp)
      have q1 : w1.cell? ⟨w.heap.size, 1, none⟩ = some (.string x.client) := y1.cellAt 1 (by simp)
      have q2 : w1.cell? ⟨w.heap.size, 2, none⟩ = some (.int .i64 x.amount) := y1.cellAt 2 (by simp)
      clear bq b1 yq y1
      go_wp2_with fail
      go_region_held3 (fun W => Below w1.heap.size w1 W ∧ W.cell? ⟨w.heap.size, 0, none⟩ = some (.int .i64 x.day) ∧ W.cell? ⟨w.heap.size, 1, none⟩ = some (.string x.client) ∧ W.cell? ⟨w.heap.size, 2, none⟩ = some (.int .i64 x.amount)) (first | exact ⟨(Below.refl _ _).drew, q0, q1, q2⟩ | (go_split_ands; exact ⟨bnext (by assumption) hb1 (Nat.le_refl _), cell_on hb1 (by assumption), cell_on hb1 (by assumption), cell_on hb1 (by assumption)⟩) | (go_split_ands; exact ⟨by assumption, by assumption, by assumption, by assumption⟩) | fail "keep") (first | (go_at_call 84; go_split_ands; refine (decimal_any _ _ (by omega) (by omega) (tabUp HT1.out (by assumption))).mono ?_; rintro e w2 ⟨rfl, hb1⟩) | fail "arm")
      rename_i hS
      have HF := Lib.hid (bnext HB.out hS.1 (Nat.le_refl _))
      go_wp2
      go_ret
      exact ⟨by rw [HO.out]; rfl, HF.out⟩

theorem l00Size_txt (n : Int) (w : World) (h : -1000000000 ≤ n) (h2 : n ≤ 1000000000) : Calls Tryz.prog 86 #[.int .i64 n] w fun e w' => e = .returned (.int .i64 (if n < 0 then -n else n)) ∧ w = w' := by
  by_cases hn : n < 0
  · have HI := Lib.hid (show (if n < 0 then -n else n) = -n from if_pos hn)
    go_enter Tryz.func86, Tryz.ntmps86
    go_wp2
    go_ret
    exact ⟨by first | rfl | rw [HI.out], rfl⟩
  · have HI := Lib.hid (show (if n < 0 then -n else n) = n from if_neg hn)
    have hd : decide (n < 0) = false := decide_eq_false hn
    go_enter Tryz.func86, Tryz.ntmps86
    go_wp2
    go_ret
    exact ⟨by first | rfl | rw [HI.out], rfl⟩

set_option maxHeartbeats 4000000 in
set_option maxRecDepth 100000 in
theorem specBookingText_any (x : Bk) (w : World) (hx : x.good) :
    Calls Tryz.prog 25 #[.agg #[.int .i64 x.day, .string x.client, .int .i64 x.amount]] w fun e w' => e = .returned (.string (textBk x)) ∧ Below w.heap.size w w' := by
  rcases h1 : okBk x with _ | _
  · have HO := Lib.hid (textBk_no h1)
    go_enter Tryz.func25, Tryz.ntmps25
    go_wp2_with fail
    obtain ⟨wq, hwq⟩ : ∃ y, w.alloc (.cells #[.int .i64 x.day, .string x.client, .int .i64 x.amount] 26) = y := ⟨_, rfl⟩
    have bq : Below w.heap.size w wq := by rw [← hwq]; exact (Below.refl _ _).alloc (Nat.le_refl _) _
    have yq : Blk wq w.heap.size 26 #[.int .i64 x.day, .string x.client, .int .i64 x.amount] := by rw [← hwq]; exact Blk.new _ _ _
    rw [hwq]
    clear hwq
    have q0 : wq.cell? ⟨w.heap.size, 0, none⟩ = some (.int .i64 x.day) := yq.cellAt 0 (by simp)
    have q1 : wq.cell? ⟨w.heap.size, 1, none⟩ = some (.string x.client) := yq.cellAt 1 (by simp)
    have q2 : wq.cell? ⟨w.heap.size, 2, none⟩ = some (.int .i64 x.amount) := yq.cellAt 2 (by simp)
    refine (l25One_any x w.heap.size 0 _ hx.2.1 q0 q1 q2).mono ?_
    rintro e w1 ⟨rfl, rfl⟩
    have HB := Lib.hid bq
    clear bq yq
    go_wp2
    go_ret
    exact ⟨by rw [HO.out]; rfl, HB.out⟩
  · by_cases ha : x.amount < 0
    · have HO := Lib.hid (textBk_pay h1 ha)
      obtain ⟨⟨d0, d1⟩, e1, ⟨a0, a1⟩, a2⟩ := okBk_iff.1 h1
      have hnm := (isName_len e1).2
      have hs1 : (asBytes (itoa x.day)).size ≤ 20 := by rw [asBytes_size]; exact itoa_len (by omega) (by omega)
      have hs2 : (asBytes (itoa (-x.amount))).size ≤ 20 := by rw [asBytes_size]; exact itoa_len (by omega) (by omega)
      have n1 : ¬ (9223372036854775807 < (asBytes (itoa x.day)).size + 2) := by omega
      have n2 : ¬ (9223372036854775807 < (asBytes (itoa x.day)).size + 2 + x.client.size) := by omega
      have n3 : ¬ (9223372036854775807 < (asBytes (itoa x.day)).size + 2 + x.client.size + 6) := by omega
      have n4 : ¬ (9223372036854775807 < (asBytes (itoa x.day)).size + 2 + x.client.size + 6 + (asBytes (itoa (-x.amount))).size) := by omega
      have hsz : ∀ W : World, Calls Tryz.prog 86 #[.int .i64 x.amount] W fun e w' => e = .returned (.int .i64 (-x.amount)) ∧ W = w' := fun W => by
        have := l00Size_txt x.amount W a0 a1
        rw [if_pos ha] at this
        exact this
      have HSz := Lib.hid hsz
      clear hsz
      go_enter Tryz.func25, Tryz.ntmps25
      go_wp2_with fail
      obtain ⟨wq, hwq⟩ : ∃ y, w.alloc (.cells #[.int .i64 x.day, .string x.client, .int .i64 x.amount] 26) = y := ⟨_, rfl⟩
      have bq : Below w.heap.size w wq := by rw [← hwq]; exact (Below.refl _ _).alloc (Nat.le_refl _) _
      have yq : Blk wq w.heap.size 26 #[.int .i64 x.day, .string x.client, .int .i64 x.amount] := by rw [← hwq]; exact Blk.new _ _ _
      rw [hwq]
      clear hwq
      have q0 : wq.cell? ⟨w.heap.size, 0, none⟩ = some (.int .i64 x.day) := yq.cellAt 0 (by simp)
      have q1 : wq.cell? ⟨w.heap.size, 1, none⟩ = some (.string x.client) := yq.cellAt 1 (by simp)
      have q2 : wq.cell? ⟨w.heap.size, 2, none⟩ = some (.int .i64 x.amount) := yq.cellAt 2 (by simp)
      refine (l25One_any x w.heap.size 0 _ hx.2.1 q0 q1 q2).mono ?_
      rintro e w1 ⟨rfl, rfl⟩
      have HB := Lib.hid bq
      clear bq yq
      go_wp2_with fail
      go_region_held3 (fun W => Below wq.heap.size wq W ∧ W.cell? ⟨w.heap.size, 0, none⟩ = some (.int .i64 x.day) ∧ W.cell? ⟨w.heap.size, 1, none⟩ = some (.string x.client) ∧ W.cell? ⟨w.heap.size, 2, none⟩ = some (.int .i64 x.amount)) (first | exact ⟨(Below.refl _ _).drew, q0, q1, q2⟩ | (go_split_ands; exact ⟨bnext (by assumption) hb1 (Nat.le_refl _), cell_on hb1 (by assumption), cell_on hb1 (by assumption), cell_on hb1 (by assumption)⟩) | (go_split_ands; exact ⟨by assumption, by assumption, by assumption, by assumption⟩) | fail "keep") (first | (go_at_call 86; refine (HSz.out _).mono ?_; rintro e w2 ⟨rfl, rfl⟩; have hb1 := Below.refl 0 wq) | (go_at_call 85; refine (l01Dec_any _ _ (by omega) (by omega)).mono ?_; rintro e w2 ⟨rfl, hb1⟩) | fail "arm")
      rename_i hS
      have HF := Lib.hid (bnext HB.out hS.1 (Nat.le_refl _))
      go_wp2
      go_ret
      exact ⟨by rw [HO.out]; rfl, HF.out⟩
    · have HO := Lib.hid (textBk_owe h1 ha)
      obtain ⟨⟨d0, d1⟩, e1, ⟨a0, a1⟩, a2⟩ := okBk_iff.1 h1
      have hnm := (isName_len e1).2
      have hs1 : (asBytes (itoa x.day)).size ≤ 20 := by rw [asBytes_size]; exact itoa_len (by omega) (by omega)
      have hs2 : (asBytes (itoa (x.amount))).size ≤ 20 := by rw [asBytes_size]; exact itoa_len (by omega) (by omega)
      have n1 : ¬ (9223372036854775807 < (asBytes (itoa x.day)).size + 2) := by omega
      have n2 : ¬ (9223372036854775807 < (asBytes (itoa x.day)).size + 2 + x.client.size) := by omega
      have n3 : ¬ (9223372036854775807 < (asBytes (itoa x.day)).size + 2 + x.client.size + 6) := by omega
      have n4 : ¬ (9223372036854775807 < (asBytes (itoa x.day)).size + 2 + x.client.size + 6 + (asBytes (itoa (x.amount))).size) := by omega
      have han : decide (x.amount < 0) = false := decide_eq_false ha
      have hsz : ∀ W : World, Calls Tryz.prog 86 #[.int .i64 x.amount] W fun e w' => e = .returned (.int .i64 (x.amount)) ∧ W = w' := fun W => by
        have := l00Size_txt x.amount W a0 a1
        rw [if_neg ha] at this
        exact this
      have HSz := Lib.hid hsz
      clear hsz
      go_enter Tryz.func25, Tryz.ntmps25
      go_wp2_with fail
      obtain ⟨wq, hwq⟩ : ∃ y, w.alloc (.cells #[.int .i64 x.day, .string x.client, .int .i64 x.amount] 26) = y := ⟨_, rfl⟩
      have bq : Below w.heap.size w wq := by rw [← hwq]; exact (Below.refl _ _).alloc (Nat.le_refl _) _
      have yq : Blk wq w.heap.size 26 #[.int .i64 x.day, .string x.client, .int .i64 x.amount] := by rw [← hwq]; exact Blk.new _ _ _
      rw [hwq]
      clear hwq
      have q0 : wq.cell? ⟨w.heap.size, 0, none⟩ = some (.int .i64 x.day) := yq.cellAt 0 (by simp)
      have q1 : wq.cell? ⟨w.heap.size, 1, none⟩ = some (.string x.client) := yq.cellAt 1 (by simp)
      have q2 : wq.cell? ⟨w.heap.size, 2, none⟩ = some (.int .i64 x.amount) := yq.cellAt 2 (by simp)
      refine (l25One_any x w.heap.size 0 _ hx.2.1 q0 q1 q2).mono ?_
      rintro e w1 ⟨rfl, rfl⟩
      have HB := Lib.hid bq
      clear bq yq
      go_wp2_with fail
      go_region_held3 (fun W => Below wq.heap.size wq W ∧ W.cell? ⟨w.heap.size, 0, none⟩ = some (.int .i64 x.day) ∧ W.cell? ⟨w.heap.size, 1, none⟩ = some (.string x.client) ∧ W.cell? ⟨w.heap.size, 2, none⟩ = some (.int .i64 x.amount)) (first | exact ⟨(Below.refl _ _).drew, q0, q1, q2⟩ | (go_split_ands; exact ⟨bnext (by assumption) hb1 (Nat.le_refl _), cell_on hb1 (by assumption), cell_on hb1 (by assumption), cell_on hb1 (by assumption)⟩) | (go_split_ands; exact ⟨by assumption, by assumption, by assumption, by assumption⟩) | fail "keep") (first | (go_at_call 86; refine (HSz.out _).mono ?_; rintro e w2 ⟨rfl, rfl⟩; have hb1 := Below.refl 0 wq) | (go_at_call 85; refine (l01Dec_any _ _ (by omega) (by omega)).mono ?_; rintro e w2 ⟨rfl, hb1⟩) | fail "arm")
      rename_i hS
      have HF := Lib.hid (bnext HB.out hS.1 (Nat.le_refl _))
      go_wp2
      go_ret
      exact ⟨by rw [HO.out]; rfl, HF.out⟩
end Go.Proofs.YtjmlcobbjpmjpaaGreatDoor
