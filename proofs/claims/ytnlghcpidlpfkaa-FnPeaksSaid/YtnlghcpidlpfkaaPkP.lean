/- What the peaks' law says of its counts: plain. -/
import Derived.Test.YtnlghcpidlpfkaaEvP
import Derived.Test.YtnlghcpidlpfkaaEvQ
import Derived.Test.YtnlghcpidlpfkaaEvH
import Derived.Test.YtnlghcpidlpfkaaEvG
import Derived.Test.YtnlghcpidlpfkaaEvF
set_option linter.unusedVariables false
namespace Go.Proofs.Ytnlghcpidlpfkaa
open Go.RowKit

theorem few_find {cs : List Int} {n p : Int} (hp0 : 0 ≤ p) (hp : p ≤ 1000) (hn : 0 ≤ n) : ∀ f j, 11 ≤ j + f → FewInv cs n j → (∀ i, i < j → 1000 * (fewSt cs i).2.1 < p * n ∧ FewInv cs n i) →
    ∃ J, fewJ cs (p * n) f j = J ∧ J ≤ 10 ∧ FewInv cs n J ∧ ¬ (1000 * (fewSt cs J).2.1 < p * n) ∧ ∀ i, i < J → 1000 * (fewSt cs i).2.1 < p * n ∧ FewInv cs n i
  | 0, j, h, hi, _ => by have := hi.cnt; omega
  | f + 1, j, h, hi, ha => by
    rw [fewJ]
    by_cases hc : 1000 * (fewSt cs j).2.1 < p * n
    · rw [if_pos hc]
      have hr := hi.round (share_bound hp0 hp hn hc)
      exact few_find hp0 hp hn f (j + 1) (by omega) hr.2.2.2.2 (fun i hij => by
        by_cases e : i = j
        · subst e; exact ⟨hc, hi⟩
        · exact ha i (by omega))
    · rw [if_neg hc]
      exact ⟨j, rfl, by have := hi.cnt; omega, hi, hc, ha⟩
/-- A count stands or is struck. -/
theorem fewSt_same (cs : List Int) : ∀ (j k : Nat), (fewSt cs j).1[k]? = cs[k]? ∨ (fewSt cs j).1[k]? = some (-1)
  | 0, k => .inl rfl
  | j + 1, k => by
    simp only [fewSt]
    rw [List.getElem?_set]
    by_cases e : bestTo (fewSt cs j).1 10 = k
    · rw [if_pos e]
      split
      · exact .inr rfl
      · rename_i hlt
        rcases fewSt_same cs j k with h | h
        · left; rw [← h]; exact (List.getElem?_eq_none (by omega)).symm
        · rw [List.getElem?_eq_none (by omega)] at h; cases h
    · rw [if_neg e]; exact fewSt_same cs j k
theorem fewSt_at (cs : List Int) : ∀ (j i : Nat), i < j → (fewSt cs j).2.2[i]? = some ((bestTo (fewSt cs i).1 10 : Nat) : Int)
  | 0, i, h => by omega
  | j + 1, i, h => by
    simp only [fewSt]
    by_cases e : i < j
    · rw [List.getElem?_append_left (by rw [fewSt_len]; exact e)]
      exact fewSt_at cs j i e
    · obtain rfl : i = j := by omega
      rw [List.getElem?_append_right (by rw [fewSt_len]; omega), fewSt_len]
      simp
/-- What the law asks of the stations that are told, place by place. -/
structure FewAt (cs : List Int) (p n : Int) (J : Nat) (i : Nat) (k : Nat) (v : Int) : Prop where
  at_ : (fewSt cs J).2.2[i]? = some (k : Int)
  lt : k < 10
  val : cs[k]? = some v
  v0 : 0 < v
  vn : v ≤ n
  ask : 1000 * (fewSt cs i).2.1 < p * n
  s0 : 0 ≤ (fewSt cs i).2.1
  s1 : (fewSt cs i).2.1 ≤ n
  next : (fewSt cs (i + 1)).2.1 = (fewSt cs i).2.1 + v
  less : ∀ k' v', 0 < i → (fewSt cs J).2.2[i - 1]? = some ((k' : Nat) : Int) → cs[k']? = some v' → v ≤ v'
theorem valTo_get {xs : List Int} {k : Nat} (h : 0 < k) (hl : xs.length = k) : xs[bestTo xs k]? = some (valTo xs k) := by
  have := bestTo_lt' xs h
  rw [List.getElem?_eq_getElem (by omega), valTo]
  simp [List.getD, List.getElem?_eq_getElem (show bestTo xs k < xs.length by omega)]
theorem few_val {cs : List Int} {n : Int} {i : Nat} (h : FewInv cs n i) (hs : (fewSt cs i).2.1 < n) : cs[bestTo (fewSt cs i).1 10]? = some (valTo (fewSt cs i).1 10) := by
  have hr := h.round hs
  rcases fewSt_same cs i (bestTo (fewSt cs i).1 10) with h1 | h1
  · rw [← h1]; exact hr.2.1
  · rw [hr.2.1] at h1
    injection h1 with h1
    have := hr.2.2.1
    omega
theorem few_at {cs : List Int} {p n : Int} {J : Nat} (hp0 : 0 ≤ p) (hp : p ≤ 1000) (hn : 0 ≤ n) (ha : ∀ i, i < J → 1000 * (fewSt cs i).2.1 < p * n ∧ FewInv cs n i) {i : Nat} (hi : i < J) :
    ∃ k v, FewAt cs p n J i k v := by
  obtain ⟨h1, h2⟩ := ha i hi
  have hs := share_bound hp0 hp hn h1
  have hr := h2.round hs
  refine ⟨bestTo (fewSt cs i).1 10, valTo (fewSt cs i).1 10, fewSt_at cs J i hi, hr.1, few_val h2 hs, hr.2.2.1, hr.2.2.2.1, h1, h2.s0, h2.s1, rfl, ?_⟩
  intro k' v' h0 hk' hv'
  obtain ⟨m, rfl⟩ : ∃ m, i = m + 1 := ⟨i - 1, by omega⟩
  obtain ⟨g1, g2⟩ := ha m (by omega)
  have gs := share_bound hp0 hp hn g1
  rw [show m + 1 - 1 = m by omega, fewSt_at cs J m (by omega)] at hk'
  injection hk' with hk'
  have hk : bestTo (fewSt cs m).1 10 = k' := by omega
  subst hk
  rw [few_val g2 gs] at hv'
  injection hv' with hv'
  subst hv'
  -- the best one behind a round is no more than the best one ahead of it
  have hb := bestTo_lt' (fewSt cs (m + 1)).1 (k := 10) (by omega)
  have hg := hr.2.1
  have hset : (fewSt cs (m + 1)).1 = (fewSt cs m).1.set (bestTo (fewSt cs m).1 10) (-1) := rfl
  have hne : (fewSt cs m).1[bestTo (fewSt cs (m + 1)).1 10]? = some (valTo (fewSt cs (m + 1)).1 10) := by
    have h3 := hg
    rw [hset, List.getElem?_set] at h3
    by_cases e : bestTo (fewSt cs m).1 10 = bestTo ((fewSt cs m).1.set (bestTo (fewSt cs m).1 10) (-1)) 10
    · rw [if_pos e] at h3
      split at h3
      · injection h3 with h3
        have := hr.2.2.1
        rw [hset] at this
        omega
      · cases h3
    · rw [if_neg e] at h3
      rw [hset]; exact h3
  have := best_le (fewSt cs m).1 10 _ hb
  rwa [getD_of hne] at this

theorem fewest_zero {l : List Ev} {p : Int} (h : (fewest l p).2 = 0) : okEv l = true ∧ inR p 0 1000 = true := by
  unfold fewest at h
  split at h
  · rename_i h1
    split at h
    · rename_i h2; exact ⟨h1, h2⟩
    · simp at h
  · simp at h
/-- All that the law asks of the stations that are told. -/
structure FewAll (l : List Ev) (p : Int) (J : Nat) : Prop where
  ok : okEv l = true
  p0 : 0 ≤ p
  p1 : p ≤ 1000
  n : l.length ≤ 200
  pn0 : 0 ≤ p * (l.length : Int)
  pn1 : p * (l.length : Int) ≤ 200000
  J10 : J ≤ 10
  list : (fewest l p).1 = (fewSt (stationsOf l) J).2.2
  end_ : ¬ (1000 * (fewSt (stationsOf l) J).2.1 < p * (l.length : Int))
  s0 : 0 ≤ (fewSt (stationsOf l) J).2.1
  s1 : (fewSt (stationsOf l) J).2.1 ≤ 200
  at_ : ∀ i, i < J → ∃ k v, FewAt (stationsOf l) p l.length J i k v
theorem few_all {l : List Ev} {p : Int} (h : (fewest l p).2 = 0) : ∃ J, FewAll l p J := by
  obtain ⟨hok, hw⟩ := fewest_zero h
  have hb := inR_true.1 hw
  have hn := okEv_len hok
  have hpn := pn_bound hb.1 hb.2 (show (0 : Int) ≤ l.length by omega) (by omega)
  obtain ⟨J, h1, h2, h3, h4, h5⟩ := few_find hb.1 hb.2 (show (0 : Int) ≤ l.length by omega) 11 0 (by omega) (stations_start hok) (fun i hi => by omega)
  refine ⟨J, hok, hb.1, hb.2, hn, hpn.1, hpn.2, h2, ?_, h4, h3.s0, by have := h3.s1; omega, fun i hi => few_at hb.1 hb.2 (by omega) h5 hi⟩
  simp only [fewest, hok, hw, if_true, h1]
theorem quiet_mem (hs : List Int) (most : Int) (x : Int) : ∀ k, x ∈ quietTo hs most k ↔ ∃ i : Nat, i < k ∧ x = (i : Int) ∧ hs.getD i 0 ≤ most
  | 0 => by simp [quietTo]
  | k + 1 => by
    rw [quietTo]
    have ih := quiet_mem hs most x k
    split
    · rename_i hc
      rw [List.mem_append, ih, List.mem_singleton]
      constructor
      · rintro (⟨i, h1, h2, h3⟩ | h)
        · exact ⟨i, by omega, h2, h3⟩
        · exact ⟨k, by omega, h, hc⟩
      · rintro ⟨i, h1, h2, h3⟩
        by_cases e : i = k
        · subst e; exact .inr h2
        · exact .inl ⟨i, by omega, h2, h3⟩
    · rename_i hc
      rw [ih]
      constructor
      · rintro ⟨i, h1, h2, h3⟩; exact ⟨i, by omega, h2, h3⟩
      · rintro ⟨i, h1, h2, h3⟩
        by_cases e : i = k
        · subst e; exact absurd h3 hc
        · exact ⟨i, by omega, h2, h3⟩
theorem quiet_has {l : List Ev} {most x : Int} {i : Nat} (hi : i < 24) (hx : (hoursOf l)[i]? = some x) : (quietTo (hoursOf l) most 24).any (· == (i : Int)) = decide (x ≤ most) := by
  rw [Bool.eq_iff_iff, List.any_eq_true, decide_eq_true_eq]
  constructor
  · rintro ⟨y, hy, he⟩
    obtain ⟨i', h1, h2, h3⟩ := (quiet_mem _ _ _ _).1 hy
    have : y = (i : Int) := by simpa using he
    have : i' = i := by omega
    subst this
    rwa [getD_of hx] at h3
  · intro h
    exact ⟨(i : Int), (quiet_mem _ _ _ _).2 ⟨i, hi, rfl, by rw [getD_of hx]; exact h⟩, by simp⟩
theorem absI_comm (a b : Int) : absI (a - b) = absI (b - a) := by unfold absI; split <;> split <;> omega
theorem dSum_comm (xs ys : List Int) : ∀ k, dSum xs ys k = dSum ys xs k
  | 0 => rfl
  | k + 1 => by rw [dSum, dSum, dSum_comm xs ys k, absI_comm]
theorem dSum_self (xs : List Int) : ∀ k, dSum xs xs k = 0
  | 0 => rfl
  | k + 1 => by rw [dSum, dSum_self xs k]; simp [absI]
theorem tot_app (a b : List Int) : tot (a ++ b) = tot a + tot b := by
  induction a with
  | nil => simp [tot]
  | cons x a ih => simp only [List.cons_append, tot, ih]; omega
theorem tot_take {xs : List Int} {k : Nat} {x : Int} (hx : xs[k]? = some x) : tot (xs.take (k + 1)) = tot (xs.take k) + posI x := by
  rw [List.take_add_one, hx, tot_app]; simp [tot]
theorem dSum_le {xs ys : List Int} {m : Nat} (hx : xs.length = m) (hy : ys.length = m) (h1 : ∀ x ∈ xs, 0 ≤ x) (h2 : ∀ y ∈ ys, 0 ≤ y) : ∀ k, k ≤ m → 0 ≤ dSum xs ys k ∧ dSum xs ys k ≤ tot (xs.take k) + tot (ys.take k)
  | 0, _ => by simp [dSum, tot]
  | k + 1, hk => by
    have ih := dSum_le hx hy h1 h2 k (by omega)
    have ex : xs[k]? = some (xs[k]'(by omega)) := List.getElem?_eq_getElem (by omega)
    have ey : ys[k]? = some (ys[k]'(by omega)) := List.getElem?_eq_getElem (by omega)
    have px := h1 _ (List.mem_of_getElem? ex)
    have py := h2 _ (List.mem_of_getElem? ey)
    rw [tot_take ex, tot_take ey, dSum_step ex ey]
    generalize xs[k]'(by omega) = x at *
    generalize ys[k]'(by omega) = y at *
    have a1 : posI x = x := by unfold posI; rw [if_pos px]
    have a2 : posI y = y := by unfold posI; rw [if_pos py]
    have a3 : 0 ≤ absI (x - y) ∧ absI (x - y) ≤ x + y := by unfold absI; split <;> omega
    omega
theorem hours_tot {l : List Ev} (h : okEv l = true) : tot (hoursOf l) = l.length := tot_hist _ _ l (fun e he => by
  obtain ⟨i, hi, rfl⟩ := List.mem_iff_getElem.1 he
  have := okE_h (okEv_all h (List.getElem?_eq_getElem hi))
  omega)
theorem cmp_bd {a b : List Ev} (h1 : okEv a = true) (h2 : okEv b = true) : 0 ≤ dSum (hoursOf a) (hoursOf b) 24 ∧ dSum (hoursOf a) (hoursOf b) 24 ≤ (a.length : Int) + b.length := by
  have := dSum_le (hours_len a) (hours_len b) (fun x hx => (hours_bd h1 x hx).1) (fun x hx => (hours_bd h2 x hx).1) 24 (Nat.le_refl _)
  rwa [List.take_of_length_le (by rw [hours_len]; omega), List.take_of_length_le (by rw [hours_len]; omega), hours_tot h1, hours_tot h2] at this
theorem cmpDays_comm (a b : List Ev) : cmpDays b a = cmpDays a b := by
  unfold cmpDays
  rw [dSum_comm, Bool.and_comm]
theorem lowF_bd {a b : Nat} (h : a ≤ b) : 0 ≤ (lowF a b).1 ∧ (lowF a b).1 ≤ (lowF a b).2 := by
  have := Nat.div_le_div_right (c := Nat.gcd a b) h
  simp only [lowF]
  exact ⟨Int.natCast_nonneg _, Int.ofNat_le.2 this⟩
theorem share_bd {l : List Ev} {st : Int} (h : (share l st).2 = 0) : 0 ≤ (share l st).1.1 ∧ (share l st).1.1 ≤ (share l st).1.2 := by
  unfold share at h ⊢
  split at h
  · rename_i h1
    split at h
    · rename_i h2
      split at h
      · simp at h
      · rename_i h3
        rw [if_pos h1, if_pos h2, if_neg h3]
        refine lowF_bd ?_
        rcases hg : (stationsOf l)[st.toNat]? with _ | z
        · simp [List.getD, hg]
        · have := histOf_bound _ _ l z (List.mem_of_getElem? hg)
          simp only [List.getD, hg, Option.getD_some]; omega
    · simp at h
  · simp at h
theorem quiet_zero {l : List Ev} {p : Int} (h : (quiet l p).2 = 0) : okEv l = true ∧ quiet l p = (quietTo (hoursOf l) p 24, 0) := by
  unfold quiet at h
  split at h
  · rename_i h1
    split at h
    · rename_i h2; exact ⟨h1, quiet_ok h1 h2⟩
    · simp at h
  · simp at h
theorem cmp_zero {a b : List Ev} (h : (cmpDays a b).2 = 0) : okEv a = true ∧ 0 ≤ (cmpDays a b).1 ∧ (cmpDays a b).1 ≤ (a.length : Int) + b.length := by
  unfold cmpDays at h
  split at h
  · rename_i h1
    simp only [Bool.and_eq_true] at h1
    rw [cmpDays_ok h1.1 h1.2]
    exact ⟨h1.1, cmp_bd h1.1 h1.2⟩
  · simp at h
theorem cmp_self {a : List Ev} (h : okEv a = true) : cmpDays a a = (0, 0) := by rw [cmpDays_ok h h, dSum_self]
/-- What the law asks of the peak. -/
theorem peak_zero {l : List Ev} (h : (peak l).2.2 = 0) : okEv l = true ∧ ∃ (q : Nat) (v : Int), peak l = ((q : Int), v, 0) ∧ q < 24 ∧ (hoursOf l)[q]? = some v ∧ ∀ (i : Nat) (x : Int), i < 24 → (hoursOf l)[i]? = some x → x ≤ v := by
  unfold peak at h
  split at h
  · rename_i h1
    split at h
    · simp at h
    · rename_i h2
      refine ⟨h1, _, _, peak_ok h1 h2, bestTo_lt' _ (by omega), valTo_get (by omega) (hours_len l), fun i x hi hx => ?_⟩
      have := best_le (hoursOf l) 24 i hi
      rwa [getD_of hx] at this
  · simp at h
end Go.Proofs.Ytnlghcpidlpfkaa
