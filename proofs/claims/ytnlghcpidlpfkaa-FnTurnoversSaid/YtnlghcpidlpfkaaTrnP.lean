/- What the law of the turnovers asks of the answers, without the program. -/
import Derived.Test.YtnlghcpidlpfkaaBkO
import Derived.Test.YtnlghcpidlpfkaaBkM
import Derived.Test.YtnlghcpidlpfkaaNmL
set_option linter.unusedVariables false
set_option linter.unusedSimpArgs false
namespace Go.Proofs.Ytnlghcpidlpfkaa
open Go.RowKit

theorem interest_pos (l : List Bk) (s : ByteArray) (a b r : Int) : 0 ≤ (interest l s a b r).1.1 := by
  unfold interest
  split
  · exact Int.natCast_nonneg _
  · exact Int.le_refl _

theorem unpaid_here (s : ByteArray) (l : List Bk) : ∀ (d k : Nat) (p : Int), l.length - k = d → k ≤ l.length → 0 ≤ p → (unpaidAt s l k p).2.2 = 0 →
    ∃ (j : Nat) (x : Bk) (q : Int), unpaidAt s l k p = ((j : Int), x.amount - q, 0) ∧ l[j]? = some x ∧ 0 ≤ q ∧ q < x.amount ∧ (x.client.toList == s.toList) = true := by
  intro d
  induction d with
  | zero =>
    intro k p hd hk hp h
    obtain rfl : k = l.length := by omega
    rw [unpaidAt_end] at h
    simp at h
  | succ d ih =>
    intro k p hd hk hp h
    have hlt : k < l.length := by omega
    have he : l[k]? = some l[k] := List.getElem?_eq_getElem hlt
    generalize l[k] = x at he
    rcases h1 : (x.client.toList == s.toList) with _ | _
    · rw [unpaidAt_other p he h1] at h ⊢
      exact ih (k + 1) p (by omega) (by omega) hp h
    · by_cases h2 : x.amount < 0
      · rw [unpaidAt_pay p he h1 h2] at h ⊢
        exact ih (k + 1) p (by omega) (by omega) hp h
      · by_cases h3 : p < x.amount
        · exact ⟨k, x, p, unpaidAt_here p he h1 h2 h3, he, hp, h3, h1⟩
        · rw [unpaidAt_on p he h1 h2 h3] at h ⊢
          exact ih (k + 1) _ (by omega) (by omega) (by omega) h
theorem old_zero {l : List Bk} {s : ByteArray} (h : (oldF l s).2.2 = 0) :
    ∃ (j : Nat) (x : Bk) (m : Int), oldF l s = ((j : Int), m, 0) ∧ l[j]? = some x ∧ 1 ≤ m ∧ m ≤ x.amount ∧ (x.client.toList == s.toList) = true := by
  by_cases h0 : codeS l s 0 = 0
  · rw [oldF_ok h0] at h ⊢
    obtain ⟨j, x, q, h1, h2, h3, h4, h5⟩ := unpaid_here s l _ 0 _ rfl (Nat.zero_le _) (bsum_bd0 (payf_bd (codeS_zero h0).1 s) _).1 h
    exact ⟨j, x, _, h1, h2, by omega, by omega, h5⟩
  · rw [oldF_bad h0] at h
    exact absurd h h0
theorem old_form (l : List Bk) (s : ByteArray) : ∃ a m c : Int, oldF l s = (a, m, c) ∧ (c = 0 → ∃ (j : Nat) (x : Bk), a = (j : Int) ∧ l[j]? = some x ∧ 1 ≤ m ∧ m ≤ x.amount ∧ (x.client.toList == s.toList) = true) := by
  refine ⟨(oldF l s).1, (oldF l s).2.1, (oldF l s).2.2, rfl, fun h => ?_⟩
  obtain ⟨j, x, m, h1, h2, h3, h4, h5⟩ := old_zero h
  rw [h1]
  exact ⟨j, x, rfl, h2, h3, h4, h5⟩

def amtf (a b : Int) (x : Bk) : Int := if inR x.day a b = true then x.amount else 0
theorem amtf_eq (a b : Int) (x : Bk) : paidf a b x - owesf a b x = amtf a b x := by
  unfold paidf owesf amtf
  split
  · split <;> omega
  · rfl
theorem bsum_amt (a b : Int) (l : List Bk) : ∀ k, bsum (paidf a b) l k - bsum (owesf a b) l k = bsum (amtf a b) l k := by
  intro k
  induction k with
  | zero => simp [bsum]
  | succ k ih =>
    rcases he : l[k]? with _ | x
    · simp only [bsum, he]; omega
    · rw [bsum_step he, bsum_step he, bsum_step he, ← ih, ← amtf_eq]; omega
theorem amtf_bd {l : List Bk} (h : okBks l = true) (a b : Int) : ∀ x ∈ l, -1000000000 ≤ amtf a b x ∧ amtf a b x ≤ 1000000000 := by
  intro x hx
  have := (okBks_mem h x hx).2.2.1
  unfold amtf
  split <;> omega
structure TurnOk (l : List Bk) (a b p o : Int) : Prop where
  ok : okBks l = true
  len : l.length ≤ 80
  p0 : 0 ≤ p
  o0 : 0 ≤ o
  p1 : p ≤ 80000000000
  o1 : o ≤ 80000000000
  sum : p - o = bsum (amtf a b) l l.length
theorem turn_zero {l : List Bk} {a b : Int} (h : (turnF l a b).2.2 = 0) : ∃ p o, turnF l a b = (p, o, 0) ∧ TurnOk l a b p o := by
  unfold turnF at h ⊢
  by_cases h0 : okBks l = true
  · by_cases h1 : (inR a 0 20000 && inR b a 20000) = true
    · have hl := okBks_len80 h0
      have h2 := bsum_bd0 (paidf_bd h0 a b) l.length
      have h3 := bsum_bd0 (owesf_bd h0 a b) l.length
      simp only [h0, h1, if_true] at h ⊢
      exact ⟨_, _, rfl, h0, hl, h2.1, h3.1, by omega, by omega, bsum_amt a b l _⟩
    · simp only [h0, h1, if_true, if_false] at h
      simp at h
  · simp only [h0, if_false] at h
    simp at h
theorem amt_bd {l : List Bk} (h : okBks l = true) (hl : l.length ≤ 80) (a b : Int) {k : Nat} (hk : k ≤ l.length) : -80000000000 ≤ bsum (amtf a b) l k ∧ bsum (amtf a b) l k ≤ 80000000000 := by
  have := bsum_bd (amtf_bd h a b) k
  omega

theorem booked_ss (l : List Bk) : SS (bookedN l).1 := by
  unfold bookedN
  split
  · exact (uniqB_facts _).1
  · exact List.Pairwise.nil
theorem ss_next {xs : List ByteArray} (h : SS xs) {k : Nat} {x y : ByteArray} (hx : xs[k]? = some x) (hy : xs[k + 1]? = some y) : Op.bytesLess x.toList y.toList = true := by
  obtain ⟨h1, rfl⟩ := List.getElem?_eq_some_iff.1 hx
  obtain ⟨h2, rfl⟩ := List.getElem?_eq_some_iff.1 hy
  exact List.pairwise_iff_getElem.1 h k (k + 1) h1 h2 (by omega)
end Go.Proofs.Ytnlghcpidlpfkaa
