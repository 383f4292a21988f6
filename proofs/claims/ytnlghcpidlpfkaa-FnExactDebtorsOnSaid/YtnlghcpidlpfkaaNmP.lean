/- The names of clients, in ascending order, each once: the plain law. -/
import Derived.Test.YtnlghcpidlpfkaaClF
import Derived.Test.YtnlghcpidlpfkaaSBk
import Derived.Lib.SlicesCompact
import Derived.Sort.OwnSorted
set_option linter.unusedVariables false
set_option linter.unusedSimpArgs false
namespace Go.Proofs.Ytnlghcpidlpfkaa
open Go.RowKit Go.Lib Go.Sort

def bl (b : ByteArray) : List UInt8 := b.data.toList
def unbl (l : List UInt8) : ByteArray := ⟨l.toArray⟩
theorem unbl_bl (b : ByteArray) : unbl (bl b) = b := by simp [unbl, bl]
theorem bl_unbl (l : List UInt8) : bl (unbl l) = l := by simp [unbl, bl]
theorem bl_inj {a b : ByteArray} (h : bl a = bl b) : a = b := by rw [← unbl_bl a, ← unbl_bl b, h]
theorem encStr_bl (b : ByteArray) : encStr (bl b) = .string b := by simp [encStr, bl]
theorem strs_enc (xs : List ByteArray) : strs xs = (xs.map bl).map encStr := by
  simp only [strs, List.map_map]
  apply List.map_congr_left
  intro b _
  exact (encStr_bl b).symm
theorem strs_unbl (xs : List (List UInt8)) : strs (xs.map unbl) = xs.map encStr := by
  rw [strs_enc, List.map_map, List.map_map]
  apply List.map_congr_left
  intro x _
  simp only [Function.comp, bl_unbl]
theorem sless_bl (a b : ByteArray) : sless a b = true ↔ bl a < bl b := by
  unfold sless bl
  rw [bytesLt, ByteArray.toList_eq, ByteArray.toList_eq, decide_eq_true_eq]
theorem beq_bl (a b : ByteArray) : (a.toList == b.toList) = true ↔ a = b := by
  rw [ByteArray.toList_eq, ByteArray.toList_eq, beq_iff_eq]
  exact ⟨fun h => bl_inj h, fun h => by rw [h]⟩
def SS (xs : List ByteArray) : Prop := xs.Pairwise fun a b => sless a b = true
theorem sless_irr (a : ByteArray) : ¬ sless a a = true := fun h => List.lt_irrefl _ ((sless_bl a a).1 h)
theorem ss_unique : ∀ xs ys : List ByteArray, SS xs → SS ys → (∀ t, t ∈ xs ↔ t ∈ ys) → xs = ys
  | [], [], _, _, _ => rfl
  | [], y :: ys, _, _, h => by have := (h y).2 (by simp); simp at this
  | x :: xs, [], _, _, h => by have := (h x).1 (by simp); simp at this
  | x :: xs, y :: ys, hx, hy, h => by
    have hx' := List.pairwise_cons.1 hx
    have hy' := List.pairwise_cons.1 hy
    have e : x = y := by
      rcases List.mem_cons.1 ((h x).1 (by simp)) with h1 | h1
      · exact h1
      · rcases List.mem_cons.1 ((h y).2 (by simp)) with h2 | h2
        · exact h2.symm
        · exact absurd (sless_trans (hx'.1 y h2) (hy'.1 x h1)) (sless_irr x)
    subst e
    rw [ss_unique xs ys hx'.2 hy'.2 (fun t => ?_)]
    constructor
    · intro ht
      rcases List.mem_cons.1 ((h t).1 (by simp [ht])) with h1 | h1
      · subst h1; exact absurd (hx'.1 t ht) (sless_irr t)
      · exact h1
    · intro ht
      rcases List.mem_cons.1 ((h t).2 (by simp [ht])) with h1 | h1
      · subst h1; exact absurd (hy'.1 t ht) (sless_irr t)
      · exact h1
/-- What is left of a sorted row once runs are struck. -/
theorem compact_inv (d : Array (List UInt8)) (hs : ∀ i j, i ≤ j → j < d.size → d[i]! ≤ d[j]!) : ∀ m, m ≤ d.size → (compactUpTo d m).Pairwise (· < ·) ∧ (∀ x ∈ compactUpTo d m, ∃ j, j < m ∧ x = d[j]!) ∧ (∀ j, j < m → d[j]! ∈ compactUpTo d m)
  | 0, _ => by simp [compactUpTo]
  | m + 1, hm => by
    obtain ⟨h1, h2, h3⟩ := compact_inv d hs m (by omega)
    rw [compactUpTo_succ]
    rcases hk : keeps d m with _ | _
    · have hm0 : 0 < m := by
        rcases Nat.eq_zero_or_pos m with h | h
        · rw [keeps_lt_one d m (by omega)] at hk; cases hk
        · exact h
      have he : d[m]! = d[m - 1]! := by
        apply Decidable.byContradiction
        intro hne
        rw [keeps_pos hne] at hk; cases hk
      simp only [Bool.false_eq_true, if_false, List.append_nil]
      refine ⟨h1, fun x hx => ?_, fun j hj => ?_⟩
      · obtain ⟨j, hj, e⟩ := h2 x hx
        exact ⟨j, by omega, e⟩
      · by_cases e : j = m
        · subst e; rw [he]; exact h3 (j - 1) (by omega)
        · exact h3 j (by omega)
    · simp only [if_true]
      refine ⟨?_, fun x hx => ?_, fun j hj => ?_⟩
      · rw [List.pairwise_append]
        refine ⟨h1, by simp, fun x hx y hy => ?_⟩
        rw [List.mem_singleton] at hy
        subst hy
        obtain ⟨j, hj, rfl⟩ := h2 x hx
        have hne : d[m]! ≠ d[m - 1]! := by
          intro e
          have := keeps_neg (by omega) e
          rw [this] at hk; cases hk
        have a := hs j (m - 1) (by omega) (by omega)
        have b := hs (m - 1) m (by omega) (by omega)
        have c : d[m - 1]! < d[m]! := Std.lt_of_le_of_ne b (fun e => hne e.symm)
        exact List.lt_of_le_of_lt a c
      · rcases List.mem_append.1 hx with hx | hx
        · obtain ⟨j, hj, e⟩ := h2 x hx
          exact ⟨j, by omega, e⟩
        · rw [List.mem_singleton] at hx
          exact ⟨m, by omega, hx⟩
      · by_cases e : j = m
        · subst e; simp
        · exact List.mem_append_left _ (h3 j (by omega))
def sortB (xs : List ByteArray) : List (List UInt8) := (xs.map bl).mergeSort fun x y => decide (x ≤ y)
/-- The names, in ascending order, each once. -/
def uniqB (xs : List ByteArray) : List ByteArray := (compact (sortB xs)).map unbl
theorem sortB_len (xs : List ByteArray) : (sortB xs).length = xs.length := by simp [sortB]
theorem sortB_up (xs : List ByteArray) : ∀ i j, i ≤ j → j < (sortB xs).toArray.size → (sortB xs).toArray[i]! ≤ (sortB xs).toArray[j]! := by
  have hp := List.pairwise_mergeSort (le := fun x y : List UInt8 => decide (x ≤ y)) (fun a b c h1 h2 => by simp at *; exact List.le_trans h1 h2) (fun a b => by
    simp only [Bool.or_eq_true, decide_eq_true_eq]
    exact Std.le_total) (xs.map bl)
  intro i j hij hj
  have hj' : j < (sortB xs).length := by simpa using hj
  rw [getElem!_pos _ i (by simp; omega), getElem!_pos _ j hj]
  simp only [List.getElem_toArray]
  by_cases e : i = j
  · subst e; exact Std.le_refl _
  · have := List.pairwise_iff_getElem.1 hp i j (by have := hj'; unfold sortB at this; omega) hj' (by omega)
    exact of_decide_eq_true this
theorem uniqB_facts (xs : List ByteArray) : SS (uniqB xs) ∧ (∀ t, t ∈ uniqB xs ↔ t ∈ xs) ∧ (uniqB xs).length ≤ xs.length := by
  obtain ⟨h1, h2, h3⟩ := compact_inv (sortB xs).toArray (sortB_up xs) (sortB xs).length (by simp)
  have hmem : ∀ x, x ∈ sortB xs ↔ x ∈ xs.map bl := fun x => (List.mergeSort_perm _ _).mem_iff
  refine ⟨?_, fun t => ?_, ?_⟩
  · unfold SS uniqB compact
    rw [List.pairwise_map]
    exact h1.imp fun h => (sless_bl _ _).2 (by rw [bl_unbl, bl_unbl]; exact h)
  · unfold uniqB compact
    rw [List.mem_map]
    constructor
    · rintro ⟨x, hx, rfl⟩
      obtain ⟨j, hj, rfl⟩ := h2 x hx
      rw [getElem!_pos _ j (by simpa using hj)]
      have : (sortB xs).toArray[j]'(by simpa using hj) ∈ sortB xs := by simp
      obtain ⟨b, hb, e⟩ := List.mem_map.1 ((hmem _).1 this)
      rw [← e, unbl_bl]; exact hb
    · intro ht
      have : bl t ∈ sortB xs := (hmem _).2 (List.mem_map.2 ⟨t, ht, rfl⟩)
      obtain ⟨j, hj, e⟩ := List.mem_iff_getElem.1 this
      refine ⟨bl t, ?_, unbl_bl t⟩
      have h4 := h3 j hj
      rw [getElem!_pos _ j (by simpa using hj)] at h4
      simpa [e] using h4
  · unfold uniqB compact compactUpTo
    rw [List.length_map, List.length_map]
    have := List.length_filter_le (keeps (sortB xs).toArray) (List.range (sortB xs).length)
    simp only [List.length_range, sortB_len, List.size_toArray] at this ⊢
    exact this
theorem uniqB_of {xs ys : List ByteArray} (h1 : SS ys) (h2 : ∀ t, t ∈ ys ↔ t ∈ xs) : ys = uniqB xs := by
  obtain ⟨a, b, _⟩ := uniqB_facts xs
  exact ss_unique _ _ h1 a (fun t => by rw [h2, b])
def namesB (l : List Bk) : List ByteArray := uniqB (l.map (·.client))
def bookedF (l : List Bk) (ok : Bool) : List ByteArray × Int := if ok = true then (namesB l, 0) else ([], 1)
end Go.Proofs.Ytnlghcpidlpfkaa
