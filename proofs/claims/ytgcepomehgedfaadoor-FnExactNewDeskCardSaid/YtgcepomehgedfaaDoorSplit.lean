/- Texts cut at a byte: the plain law. No program in sight. -/
import Derived.Lib.Split
import Derived.Lib.SplitLaws
import Derived.Lib.CutLaws
set_option linter.unusedVariables false
namespace Go.Proofs.YtgcepomehgedfaaDoor
open Go.Lib

def splitL (c : UInt8) : List UInt8 → List (List UInt8)
  | [] => [[]]
  | x :: r => if x = c then [] :: splitL c r else match splitL c r with
    | [] => [[x]]
    | h :: t => (x :: h) :: t
theorem splitL_none {c : UInt8} : ∀ {l : List UInt8}, c ∉ l → splitL c l = [l]
  | [], _ => rfl
  | x :: r, h => by
    simp only [List.mem_cons, not_or] at h
    rw [splitL, if_neg (fun e => h.1 e.symm), splitL_none h.2]
theorem splitL_hit {c : UInt8} {r : List UInt8} : ∀ {a : List UInt8}, c ∉ a → splitL c (a ++ c :: r) = a :: splitL c r
  | [], _ => by simp [splitL]
  | x :: a, h => by
    simp only [List.mem_cons, not_or] at h
    rw [List.cons_append, splitL, if_neg (fun e => h.1 e.symm), splitL_hit h.2]
theorem splitL_len (c : UInt8) : ∀ l : List UInt8, (splitL c l).length = l.count c + 1
  | [] => rfl
  | x :: r => by
    have ih := splitL_len c r
    rw [splitL]
    by_cases h : x = c
    · subst h
      rw [if_pos rfl, List.length_cons, ih]
      simp
    · rw [if_neg h, List.count_cons_of_ne (by simpa using h)]
      revert ih
      cases splitL c r with
      | nil => intro ih; simp at ih
      | cons y t => intro ih; simpa using ih
theorem index_one (c : UInt8) : ∀ l : List UInt8, (index l [c] = -1 ∧ c ∉ l) ∨ ∃ a r, l = a ++ c :: r ∧ c ∉ a ∧ index l [c] = a.length
  | [] => .inl ⟨by simp [index], by simp⟩
  | b :: l => by
    by_cases h : c = b
    · subst h
      exact .inr ⟨[], l, rfl, by simp, by simp [index]⟩
    · have hp : ([c] : List UInt8).isPrefixOf (b :: l) = false := by simp [List.isPrefixOf, h]
      rcases index_one c l with ⟨h1, h2⟩ | ⟨a, r, rfl, h2, h3⟩
      · exact .inl ⟨by rw [index, hp, h1]; rfl, by simp [h, h2]⟩
      · refine .inr ⟨b :: a, r, rfl, by simp [h, h2], ?_⟩
        rw [index, hp, h3]
        rw [if_neg (by simp), if_neg (by simp)]
        simp
theorem splitK_ge (c : UInt8) : ∀ (k : Nat) (l : List UInt8), l.count c ≤ k → splitK [c] 0 k l = splitL c l
  | 0, l, h => by
    have : c ∉ l := by rw [← List.count_pos_iff]; omega
    rw [splitL_none this]; rfl
  | k + 1, l, h => by
    rw [splitK]
    rcases index_one c l with ⟨h1, h2⟩ | ⟨a, r, rfl, h2, h3⟩
    · rw [h1, splitL_none h2]; rfl
    · rw [h3, if_neg (by simp), splitL_hit h2]
      have hc : (a ++ c :: r).count c = r.count c + 1 := by
        rw [List.count_append, List.count_eq_zero.2 h2]; simp
      have e1 : ((a.length : Int)).toNat = a.length := by omega
      rw [e1, Nat.add_zero, List.take_left, List.length_singleton]
      have e2 : (a ++ c :: r).drop (a.length + 1) = r := by
        rw [← List.drop_drop, List.drop_left]; rfl
      rw [e2, splitK_ge c k r (by omega)]
theorem splitK_len (c : UInt8) : ∀ (k : Nat) (l : List UInt8), k ≤ l.count c → (splitK [c] 0 k l).length = k + 1
  | 0, l, _ => rfl
  | k + 1, l, h => by
    rw [splitK]
    rcases index_one c l with ⟨h1, h2⟩ | ⟨a, r, rfl, h2, h3⟩
    · rw [List.count_eq_zero.2 h2] at h; omega
    · rw [h3, if_neg (by simp)]
      have hc : (a ++ c :: r).count c = r.count c + 1 := by
        rw [List.count_append, List.count_eq_zero.2 h2]; simp
      have e1 : ((a.length : Int)).toNat = a.length := by omega
      rw [e1, List.length_singleton]
      have e2 : (a ++ c :: r).drop (a.length + 1) = r := by
        rw [← List.drop_drop, List.drop_left]; rfl
      rw [e2, List.length_cons, splitK_len c k r (by omega)]
def asBytes (l : List UInt8) : ByteArray := ⟨l.toArray⟩
theorem asBytes_data (s : ByteArray) : asBytes s.data.toList = s := by simp [asBytes]
theorem data_asBytes (l : List UInt8) : (asBytes l).data.toList = l := by simp [asBytes]
theorem asBytes_size (l : List UInt8) : (asBytes l).size = l.length := by simp [asBytes, ByteArray.size]
/-- The parts of a text between bytes c. -/
def splitS (c : UInt8) (s : ByteArray) : List ByteArray := (splitL c s.data.toList).map asBytes
theorem splitS_len (c : UInt8) (s : ByteArray) : (splitS c s).length = s.data.toList.count c + 1 := by simp [splitS, splitL_len]
theorem of_data {xs : List ByteArray} {ys : List (List UInt8)} (h : xs.map (·.data.toList) = ys) : xs = ys.map asBytes := by
  rw [← h, List.map_map]
  have : (asBytes ∘ fun x : ByteArray => x.data.toList) = id := by funext x; exact asBytes_data x
  rw [this, List.map_id]
theorem countB_one (c : UInt8) (s : ByteArray) : countB s ⟨#[c]⟩ = s.data.toList.count c := by
  rw [countB, show (⟨#[c]⟩ : ByteArray).data.toList = [c] from rfl, count_one]
theorem splitB_one (c : UInt8) (s : ByteArray) : splitB ⟨#[c]⟩ 0 (countB s ⟨#[c]⟩) s = splitS c s := by
  have h := splitB_data ⟨#[c]⟩ 0 (countB s ⟨#[c]⟩) s
  rw [of_data h, show (⟨#[c]⟩ : ByteArray).data.toList = [c] from rfl, splitK_ge c _ _ (by rw [countB_one]; exact Nat.le_refl _)]
  rfl
/-- Cut at the first two bytes c alone: two parts just where there are two parts. -/
theorem splitB_two (c : UInt8) (s : ByteArray) (k : Nat) (hk : k = min 3 (s.size + 1) - 1) : ((splitB ⟨#[c]⟩ 0 k s).length = 2 → splitB ⟨#[c]⟩ 0 k s = splitS c s ∧ (splitS c s).length = 2) ∧ ((splitB ⟨#[c]⟩ 0 k s).length ≠ 2 → (splitS c s).length ≠ 2) := by
  have h := splitB_data ⟨#[c]⟩ 0 k s
  have hx := of_data h
  rw [show (⟨#[c]⟩ : ByteArray).data.toList = [c] from rfl] at hx
  have hcl : s.data.toList.count c ≤ s.size := by
    have := List.count_le_length (a := c) (l := s.data.toList)
    rw [Array.length_toList] at this
    exact this
  by_cases hc : s.data.toList.count c ≤ k
  · rw [splitK_ge c k _ hc] at hx
    have hx' : splitB ⟨#[c]⟩ 0 k s = splitS c s := hx
    rw [hx']
    exact ⟨fun h => ⟨rfl, h⟩, fun h => h⟩
  · have hl : (splitB ⟨#[c]⟩ 0 k s).length = k + 1 := by
      rw [hx, List.length_map, splitK_len c k _ (by omega)]
    have hk2 : k = 2 := by
      rw [hk] at hc ⊢
      simp only [Nat.min_def] at hc ⊢
      split at hc <;> rename_i h' <;> simp only [h', if_true, if_false] <;> omega
    rw [hl, hk2, splitS_len]
    exact ⟨fun h => by omega, fun h => by omega⟩
/-- The parts put together again. -/
def joinL (c : UInt8) : List (List UInt8) → List UInt8
  | [] => []
  | [x] => x
  | x :: y :: r => x ++ c :: joinL c (y :: r)
theorem splitL_ne (c : UInt8) (l : List UInt8) : splitL c l ≠ [] := by
  intro h
  have := splitL_len c l
  rw [h] at this
  cases this
theorem joinL_splitL (c : UInt8) : ∀ l : List UInt8, joinL c (splitL c l) = l
  | [] => rfl
  | x :: r => by
    have ih := joinL_splitL c r
    rw [splitL]
    by_cases h : x = c
    · subst h
      rw [if_pos rfl]
      have hne := splitL_ne x r
      revert ih hne
      cases splitL x r with
      | nil => intro _ hne; exact absurd rfl hne
      | cons y t => intro ih _; simp only [joinL]; rw [ih]; rfl
    · rw [if_neg h]
      have hne := splitL_ne c r
      revert ih hne
      cases splitL c r with
      | nil => intro _ hne; exact absurd rfl hne
      | cons y t =>
        intro ih _
        cases t with
        | nil => simp only [joinL] at ih ⊢; rw [ih]
        | cons z u => simp only [joinL] at ih ⊢; rw [List.cons_append, ih]
theorem splitL_mem (c : UInt8) : ∀ (l x : List UInt8), x ∈ splitL c l → c ∉ x
  | [], x, h => by simp [splitL] at h; subst h; simp
  | y :: r, x, h => by
    have ih := splitL_mem c r
    rw [splitL] at h
    by_cases hy : y = c
    · rw [if_pos hy, List.mem_cons] at h
      rcases h with rfl | h
      · simp
      · exact ih x h
    · rw [if_neg hy] at h
      revert ih h
      cases splitL c r with
      | nil => intro h ih; simp at h; subst h; simpa using fun e => hy e.symm
      | cons a t =>
        intro h ih
        rw [List.mem_cons] at h
        rcases h with rfl | h
        · have := ih a (by simp)
          simp only [List.mem_cons, not_or]
          exact ⟨fun e => hy e.symm, this⟩
        · exact ih x (by simp [h])
end Go.Proofs.YtgcepomehgedfaaDoor
