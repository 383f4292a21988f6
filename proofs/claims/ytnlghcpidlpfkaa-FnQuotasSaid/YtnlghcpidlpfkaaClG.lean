/- Clients: slices.BinarySearchFunc at this program's clients. -/
import Derived.Test.YtnlghcpidlpfkaaClF
set_option linter.unusedVariables false
namespace Go.Proofs.Ytnlghcpidlpfkaa
open Go.RowKit

set_option maxHeartbeats 2000000 in
theorem binSearch_any (A : Option Addr) (n c : Nat) (l : List Cl) (s : ByteArray) (B : Nat) (w : World) (h : Reads w B 5 A n (cls l)) (hB : B ≤ w.heap.size) (hn : n ≤ 1048576) (hok : okCls l = true) :
    Calls Try.prog 187 #[.slice A n c, .string s, .func (.func 188) #[] #[]] w fun e w' => ∃ i : Nat, PlaceAt l s i ∧ e = .returned (.tuple #[.int .i64 i, .bool (foundAt l s i)]) ∧ Below w.heap.size w w' := by
  have hl := Lib.hid (cls_len h)
  have HK := Lib.hid hok
  clear hok
  go_enter Try.func187, Try.ntmps187
  go_wp2
  go_loopw [9, 10] (fun p q wr => ∃ i j : Nat, i ≤ j ∧ j ≤ n ∧ p = .int .i64 i ∧ q = .int .i64 j ∧ (∀ (k : Nat) (x : Cl), l[k]? = some x → k < i → sless x.name s = true) ∧ (∀ (k : Nat) (x : Cl), l[k]? = some x → j ≤ k → ¬ sless x.name s = true) ∧ Below w.heap.size w wr) (fun p q _ => (intOf q - intOf p).toNat)
  case atStart => exact ⟨0, n, Nat.zero_le _, Nat.le_refl _, rfl, rfl, fun k x _ hk => by omega, fun k x hx hk => by have := (List.getElem?_eq_some_iff.1 hx).1; have := hl.out; omega, Below.refl _ _⟩
  case round =>
    obtain ⟨i, j, hij, hj, rfl, rfl, hlo, hhi, hbel⟩ := hrel
    have HLo := Lib.hid hlo
    have HHi := Lib.hid hhi
    have HBe := Lib.hid hbel
    clear hlo hhi
    by_cases hlt : i < j
    · have hm1 : (i + j) / 2 < n := by omega
      obtain ⟨m, hm⟩ : ∃ m, (i + j) / 2 = m := ⟨_, rfl⟩
      obtain ⟨x, b, off, he, rfl, hb, c0, c1, c2, c3, c4⟩ := cl_at (k := m) (h.on hB hbel) (by omega)
      have HE := Lib.hid he
      clear he h hbel
      have h1 : ∀ (k : Nat) (z : Cl), sless x.name s = true → l[k]? = some z → k < m + 1 → sless z.name s = true := fun k z hx hz hk => by
        rcases Nat.lt_or_ge k m with h | h
        · have hi : k < l.length := (List.getElem?_eq_some_iff.1 hz).1
          obtain ⟨d, rfl⟩ : ∃ d, m = k + 1 + d := ⟨m - k - 1, by omega⟩
          exact sless_trans (okCls_up HK.out hz d x HE.out) hx
        · obtain rfl : k = m := by omega
          rw [HE.out] at hz; injection hz with hz; subst hz; exact hx
      have h2 : ∀ (k : Nat) (z : Cl), ¬ sless x.name s = true → l[k]? = some z → m ≤ k → ¬ sless z.name s = true := fun k z hx hz hk hs => by
        rcases Nat.lt_or_ge m k with h | h
        · obtain ⟨d, rfl⟩ : ∃ d, k = m + 1 + d := ⟨k - m - 1, by omega⟩
          exact hx (sless_trans (okCls_up HK.out HE.out d z hz) hs)
        · obtain rfl : k = m := by omega
          rw [HE.out] at hz; injection hz with hz; subst hz; exact hx hs
      have H1 := Lib.hid h1
      have H2 := Lib.hid h2
      clear h1 h2 HE
      go_wp2_with fail
      refine (place1_any x s _).mono ?_
      rintro e w1 ⟨rfl, b1⟩
      have HF := Lib.hid (bnext HBe.out b1 (Nat.le_refl _))
      clear b1 c0 c1 c2 c3 c4
      by_cases hc : cmpS x.name s < 0
      · have hsl := Lib.hid (cmpS_lt.1 hc)
        go_wp2
        go_roundw
        case rel => exact ⟨m + 1, j, by omega, by omega, by congr 1; omega, rfl, fun k z hz hk => H1.out k z hsl.out hz hk, HHi.out, HF.out⟩
        case measure => simp [intOf]; omega
      · have hsl := Lib.hid (fun hh => hc (cmpS_lt.2 hh))
        have hc1 : decide (cmpS x.name s < 0) = false := decide_eq_false hc
        go_wp2
        go_roundw
        case rel => exact ⟨i, m, by omega, by omega, rfl, by congr 1; omega, HLo.out, fun k z hz hk => H2.out k z hsl.out hz hk, HF.out⟩
        case measure => simp [intOf]; omega
    · obtain rfl : i = j := by omega
      have HP := Lib.hid (show PlaceAt l s i from ⟨by have := hl.out; omega, fun k x hx => ⟨fun hs => by
        rcases Nat.lt_or_ge k i with h | h
        · exact h
        · exact absurd hs (HHi.out k x hx h), fun hk => HLo.out k x hx hk⟩⟩)
      by_cases hin : i < n
      · obtain ⟨x, b, off, he, rfl, hb, c0, c1, c2, c3, c4⟩ := cl_at (k := i) (h.on hB hbel) hin
        have HN := Lib.hid (show ¬ cmpS x.name s < 0 from fun hc => HHi.out i x he (Nat.le_refl _) (cmpS_lt.1 hc))
        have HG := Lib.hid (show foundAt l s i = (cmpS x.name s == 0) by rw [cmpS_zero HN.out]; simp [foundAt, he, hit])
        clear he h hbel
        go_wp2_with fail
        refine (place1_any x s _).mono ?_
        rintro e w1 ⟨rfl, b1⟩
        have HF := Lib.hid (bnext HBe.out b1 (Nat.le_refl _))
        clear b1 c0 c1 c2 c3 c4
        go_wp2
        go_ret2
        exact ⟨i, HP.out, by rw [HG.out]; rfl, HF.out⟩
      · obtain rfl : i = n := by omega
        have HG := Lib.hid (show foundAt l s i = false by
          have : l[i]? = none := List.getElem?_eq_none (by have := hl.out; omega)
          simp [foundAt, this])
        go_wp2
        go_ret2
        exact ⟨i, HP.out, by rw [HG.out]; rfl, HBe.out⟩
end Go.Proofs.Ytnlghcpidlpfkaa
