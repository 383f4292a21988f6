/- The clients that owe, by what they owe: the plain law. -/
import Derived.Test.YtnlghcpidlpfkaaStd
import Derived.Test.YtnlghcpidlpfkaaSta
import Derived.Test.YtnlghcpidlpfkaaNmS
set_option linter.unusedVariables false
set_option linter.unusedSimpArgs false
namespace Go.Proofs.Ytnlghcpidlpfkaa
open Go.RowKit Stb

/-- One client stands ahead of another: it owes more, or as much and its name comes first. -/
def balR (l : List Bk) (d : Int) (x y : ByteArray) : Prop := bal l y d < bal l x d ∨ (bal l x d = bal l y d ∧ sless x y = true)
theorem balR_irr (l : List Bk) (d : Int) (x : ByteArray) : ¬ balR l d x x := fun h => by
  rcases h with h | h
  · omega
  · exact sless_irr x h.2
theorem balR_trans {l : List Bk} {d : Int} {x y z : ByteArray} (h : balR l d x y) (k : balR l d y z) : balR l d x z := by
  unfold balR at *
  rcases h with h | h
  · rcases k with k | k
    · left; omega
    · left; omega
  · rcases k with k | k
    · left; omega
    · right; exact ⟨by omega, sless_trans h.2 k.2⟩
theorem pw_unique {R : ByteArray → ByteArray → Prop} (irr : ∀ x, ¬ R x x) (tr : ∀ x y z, R x y → R y z → R x z) : ∀ xs ys : List ByteArray, xs.Pairwise R → ys.Pairwise R → (∀ t, t ∈ xs ↔ t ∈ ys) → xs = ys
  | [], [], _, _, _ => rfl
  | [], y :: ys, _, _, h => by have := (h y).2 (by simp); simp at this
  | x :: xs, [], _, _, h => by have := (h x).1 (by simp); simp at this
  | x :: xs, y :: ys, hx, hy, h => by
    have hx' := List.pairwise_cons.1 hx
    have hy' := List.pairwise_cons.1 hy
    have e : x = y := by
      rcases List.mem_cons.1 ((h x).1 (by simp)) with h1 | h1
      · exact h1
      · rcases List.mem_cons.1 ((h y).2 (by simp)) with h2 | h2
        · exact h2.symm
        · exact absurd (tr _ _ _ (hx'.1 y h2) (hy'.1 x h1)) (irr x)
    subst e
    rw [pw_unique irr tr xs ys hx'.2 hy'.2 (fun t => ?_)]
    constructor
    · intro ht
      rcases List.mem_cons.1 ((h t).1 (by simp [ht])) with h1 | h1
      · subst h1; exact absurd (hx'.1 t ht) (irr t)
      · exact h1
    · intro ht
      rcases List.mem_cons.1 ((h t).2 (by simp [ht])) with h1 | h1
      · subst h1; exact absurd (hy'.1 t ht) (irr t)
      · exact h1
theorem pw_ins {R : ByteArray → ByteArray → Prop} {xs : List ByteArray} {t : ByteArray} {j : Nat} (h : xs.Pairwise R) (tr : ∀ x y z, R x y → R y z → R x z) (hlo : ∀ (i : Nat) (y : ByteArray), i < j → xs[i]? = some y → R y t) (hhi : ∀ (i : Nat) (y : ByteArray), j ≤ i → xs[i]? = some y → R t y) : (xs.take j ++ [t] ++ xs.drop j).Pairwise R := by
  have e : xs.take j ++ xs.drop j = xs := List.take_append_drop j xs
  have h' := h
  rw [← e, List.pairwise_append] at h'
  obtain ⟨p1, p2, p3⟩ := h'
  have lo : ∀ y ∈ xs.take j, R y t := fun y hy => by
    obtain ⟨i, hi, rfl⟩ := List.mem_iff_getElem.1 hy
    have hi2 : i < j ∧ i < xs.length := by simp at hi; omega
    rw [List.getElem_take]
    exact hlo i _ hi2.1 (List.getElem?_eq_getElem hi2.2)
  have up : ∀ y ∈ xs.drop j, R t y := fun y hy => by
    obtain ⟨i, hi, rfl⟩ := List.mem_iff_getElem.1 hy
    have hi2 : j + i < xs.length := by simp at hi; omega
    rw [List.getElem_drop]
    exact hhi (j + i) _ (by omega) (List.getElem?_eq_getElem hi2)
  rw [List.pairwise_append, List.pairwise_append]
  refine ⟨⟨p1, by simp, fun a ha b hb => ?_⟩, p2, fun a ha b hb => ?_⟩
  · rw [List.mem_singleton] at hb; subst hb; exact lo a ha
  · rcases List.mem_append.1 ha with ha | ha
    · exact tr _ _ _ (lo a ha) (up b hb)
    · rw [List.mem_singleton] at ha; subst ha; exact up b hb
/-- The order at the beginning, the comparison, the order wanted. -/
theorem bal_ord (l : List Bk) (d : Int) : Ord3 (fun x y => decide (cmpI (bal l y d) (bal l x d) < 0)) (balR l d) (fun x y => sless x y = true) := by
  constructor
  · intro x y h
    exact .inl (cmpI_neg.1 (of_decide_eq_true h))
  · intro x y h k
    have h1 : ¬ bal l x d < bal l y d := fun q => by
      have := of_decide_eq_false h
      exact this (cmpI_neg.2 q)
    by_cases e : bal l y d < bal l x d
    · exact .inl e
    · exact .inr ⟨by omega, k⟩
  · intro x y z h k
    have k1 := cmpI_neg.1 (of_decide_eq_true k)
    apply decide_eq_true
    apply cmpI_neg.2
    rcases h with h | h <;> omega
  · intro x y z h k
    have k1 := cmpI_neg.1 (of_decide_eq_true h)
    apply decide_eq_true
    apply cmpI_neg.2
    rcases k with h | h <;> omega
def leB (l : List Bk) (d : Int) (x y : ByteArray) : Bool := decide (bal l y d < bal l x d) || (decide (bal l x d = bal l y d) && decide (bl x ≤ bl y))
/-- Who owes. -/
def owes (l : List Bk) (d : Int) (t : ByteArray) : Bool := decide (0 < bal l t d)
def debtF (l : List Bk) (d : Int) : List ByteArray := ((namesB l).filter (owes l d)).mergeSort (leB l d)
theorem debt_mem (l : List Bk) (d : Int) (t : ByteArray) : t ∈ debtF l d ↔ t ∈ (namesB l).filter (owes l d) := (List.mergeSort_perm _ _).mem_iff
theorem names_ss (l : List Bk) : SS (namesB l) := (uniqB_facts _).1
theorem owes_ss (l : List Bk) (d : Int) : SS ((namesB l).filter (owes l d)) := (names_ss l).filter _
theorem debt_pw (l : List Bk) (d : Int) : (debtF l d).Pairwise (balR l d) := by
  have hp := List.pairwise_mergeSort (le := leB l d) (fun a b c h1 h2 => by
    simp only [leB, Bool.or_eq_true, Bool.and_eq_true, decide_eq_true_eq] at *
    rcases h1 with h1 | h1
    · rcases h2 with h2 | h2
      · left; omega
      · left; omega
    · rcases h2 with h2 | h2
      · left; omega
      · right; exact ⟨by omega, List.le_trans h1.2 h2.2⟩) (fun a b => by
    simp only [leB, Bool.or_eq_true, Bool.and_eq_true, decide_eq_true_eq]
    rcases Int.lt_trichotomy (bal l a d) (bal l b d) with h | h | h
    · right; left; exact h
    · rcases (Std.le_total : bl a ≤ bl b ∨ bl b ≤ bl a) with k | k
      · left; right; exact ⟨h, k⟩
      · right; right; exact ⟨h.symm, k⟩
    · left; left; exact h) ((namesB l).filter (owes l d))
  have hn : (debtF l d).Nodup := by
    have h1 : ((namesB l).filter (owes l d)).Nodup := (owes_ss l d).imp fun {a b} h e => by subst e; exact sless_irr a h
    exact (List.mergeSort_perm _ _).nodup_iff.2 h1
  have hb := List.pairwise_and_iff.2 ⟨hp, hn⟩
  refine hb.imp fun {a b} h => ?_
  obtain ⟨h1, h2⟩ := h
  simp only [leB, Bool.or_eq_true, Bool.and_eq_true, decide_eq_true_eq] at h1
  rcases h1 with h1 | h1
  · exact .inl h1
  · refine .inr ⟨h1.1, (sless_bl a b).2 (Std.lt_of_le_of_ne h1.2 fun e => h2 (bl_inj e))⟩
theorem debt_unique {l : List Bk} {d : Int} {ys : List ByteArray} (h1 : ys.Pairwise (balR l d)) (h2 : ∀ t, t ∈ ys ↔ t ∈ (namesB l).filter (owes l d)) : ys = debtF l d :=
  pw_unique (balR_irr l d) (fun _ _ _ => balR_trans) _ _ h1 (debt_pw l d) (fun t => by rw [h2, debt_mem])
theorem debt_len (l : List Bk) (d : Int) : (debtF l d).length = ((namesB l).filter (owes l d)).length := (List.mergeSort_perm _ _).length_eq
theorem row_of (xs : List ByteArray) : row (fun k => xs.getD k ⟨#[]⟩) xs.length = xs := by
  apply List.ext_getElem
  · simp [row_length]
  · intro i h1 h2
    simp [row, h2]
theorem srt_of {S : ByteArray → ByteArray → Prop} {xs : List ByteArray} (h : xs.Pairwise S) : Srt S (fun k => xs.getD k ⟨#[]⟩) 0 xs.length := by
  intro i j _ h2 h3
  have := List.pairwise_iff_getElem.1 h i j (by omega) h3 h2
  simpa [List.getD_eq_getElem?_getD, List.getElem?_eq_getElem (show i < xs.length by omega), List.getElem?_eq_getElem h3] using this
theorem pw_of {R : ByteArray → ByteArray → Prop} {f : Nat → ByteArray} {n : Nat} (h : Srt R f 0 n) : (row f n).Pairwise R := by
  rw [List.pairwise_iff_getElem]
  intro i j h1 h2 h3
  rw [row_length] at h1 h2
  simpa [row] using h i j (Nat.zero_le _) h3 h2
/-- What the stable sort leaves of those who owe. -/
theorem sorted_debt {l : List Bk} {d : Int} {f' : Nat → ByteArray} {n : Nat} (hn : n = ((namesB l).filter (owes l d)).length) (ht : Turned (fun k => ((namesB l).filter (owes l d)).getD k ⟨#[]⟩) f' 0 n n) (hs : Srt (balR l d) f' 0 n) : row f' n = debtF l d := by
  refine debt_unique (pw_of hs) fun t => ?_
  rw [ht.perm.mem_iff, hn, row_of]
def debtorsN (l : List Bk) (d : Int) : List ByteArray × Int := if okBks l = true then (if inR d 0 20000 = true then (debtF l d, 0) else ([], 2)) else ([], 1)
theorem debtorsN_bad {l : List Bk} {d : Int} (h : okBks l = false) : debtorsN l d = ([], 1) := by simp [debtorsN, h]
theorem debtorsN_day {l : List Bk} {d : Int} (h : okBks l = true) (k : inR d 0 20000 = false) : debtorsN l d = ([], 2) := by simp [debtorsN, h, k]
theorem debtorsN_ok {l : List Bk} {d : Int} (h : okBks l = true) (k : inR d 0 20000 = true) : debtorsN l d = (debtF l d, 0) := by simp [debtorsN, h, k]
theorem names_len (l : List Bk) : (namesB l).length ≤ l.length := by
  have := (uniqB_facts (l.map fun b : Bk => b.client)).2.2
  simpa [namesB] using this
theorem debtorsN_len (l : List Bk) (d : Int) : (debtorsN l d).1.length ≤ l.length := by
  unfold debtorsN
  split
  · split
    · have h1 := debt_len l d
      have h2 := List.length_filter_le (owes l d) (namesB l)
      have h3 := names_len l
      simp only
      omega
    · simp
  · simp
theorem cntDebtorsOn_len {l : List Bk} {d : Int} {m : Nat} (h : (strs (debtorsN l d).1).length = m * 1) : m ≤ 1048576 := by
  rw [strs_length] at h
  have h1 : (debtorsN l d).1.length ≤ 80 := by
    rcases hok : okBks l with _ | _
    · rw [debtorsN_bad hok]; simp
    · have := debtorsN_len l d; have := okBks_len hok; omega
  omega
end Go.Proofs.Ytnlghcpidlpfkaa
