/- The log of a list: the plain law. -/
import Derived.Test.YtjmlcobbjpmjpaaDoorLogP
set_option linter.unusedVariables false
set_option linter.unusedSimpArgs false
namespace Go.Proofs.YtjmlcobbjpmjpaaDoor
open Go.RowKit Go.Lib

/-- The stamp behind the first k entries. -/
def stampAt (l : List En) : Nat → Int
  | 0 => 0
  | k + 1 => match l[k]? with
    | none => stampAt l k
    | some e => stampW (stampAt l k) (wordsB e)
theorem stampAt_step {l : List En} {k : Nat} {e : En} (h : l[k]? = some e) : stampAt l (k + 1) = stampW (stampAt l k) (wordsB e) := by simp [stampAt, h]
theorem stampAt_bd (l : List En) : ∀ k, 0 ≤ stampAt l k ∧ stampAt l k ≤ 65518
  | 0 => by simp [stampAt]
  | k + 1 => by
    simp only [stampAt]
    split
    · exact stampAt_bd l k
    · exact stampW_bd _ _
/-- The lines of the first k entries. -/
def logTo (l : List En) : Nat → ByteArray
  | 0 => ⟨#[]⟩
  | k + 1 => match l[k]? with
    | none => logTo l k
    | some e => logTo l k ++ lineB (stampAt l (k + 1)) e
theorem logTo_step {l : List En} {k : Nat} {e : En} (h : l[k]? = some e) : logTo l (k + 1) = logTo l k ++ lineB (stampAt l (k + 1)) e := by simp [logTo, h]
theorem logTo_size {l : List En} (hok : ∀ x ∈ l, okEn x = true) : ∀ k, (logTo l k).size ≤ 80 * k
  | 0 => by simp [logTo, ByteArray.size]
  | k + 1 => by
    have ih := logTo_size hok k
    simp only [logTo]
    split
    · omega
    · rename_i e he
      have h1 := hok e (List.mem_of_getElem? he)
      have h2 := stampAt_bd l (k + 1)
      have h3 := lineB_size h1 h2.1 h2.2
      rw [ByteArray.size_append]
      omega
theorem logTo_up (l : List En) (k : Nat) : (logTo l k).size ≤ (logTo l (k + 1)).size := by
  rw [logTo]
  split
  · exact Nat.le_refl _
  · rw [ByteArray.size_append]; omega
theorem logTo_mono (l : List En) {k j : Nat} (h : k ≤ j) : (logTo l k).size ≤ (logTo l j).size := by
  induction h with
  | refl => exact Nat.le_refl _
  | step _ ih => exact Nat.le_trans ih (logTo_up l _)
def daysUp : List En → Bool
  | [] => true
  | [_] => true
  | a :: b :: t => decide (a.day ≤ b.day) && daysUp (b :: t)
theorem daysUp_bad : ∀ {l : List En} {k : Nat} {a b : En}, l[k]? = some a → l[k + 1]? = some b → b.day < a.day → daysUp l = false
  | [], _, _, _, h, _, _ => by simp at h
  | [_], _, _, _, _, h, _ => by simp at h
  | x :: y :: t, 0, a, b, h1, h2, h3 => by
    simp at h1 h2
    subst h1 h2
    have : ¬ (x.day ≤ y.day) := by omega
    simp [daysUp, this]
  | x :: y :: t, k + 1, a, b, h1, h2, h3 => by
    have := daysUp_bad (l := y :: t) (k := k) (by simpa using h1) (by simpa using h2) h3
    simp [daysUp, this]
theorem daysUp_ok : ∀ {l : List En}, (∀ k a b, l[k]? = some a → l[k + 1]? = some b → a.day ≤ b.day) → daysUp l = true
  | [], _ => rfl
  | [_], _ => rfl
  | x :: y :: t, h => by
    have h1 := h 0 x y rfl rfl
    have h2 := daysUp_ok (l := y :: t) (fun k a b ha hb => h (k + 1) a b (by simpa using ha) (by simpa using hb))
    simp [daysUp, h1, h2]
def logOfF (l : List En) : ByteArray × Int :=
  if l.all okEn = true then (if daysUp l = true then (if 4000 < (logTo l l.length).size then (⟨#[]⟩, 5) else (logTo l l.length, 0)) else (⟨#[]⟩, 6)) else (⟨#[]⟩, 7)
theorem logOfF_bad {l : List En} (h : l.all okEn = false) : logOfF l = (⟨#[]⟩, 7) := by simp [logOfF, h]
theorem logOfF_days {l : List En} (h : l.all okEn = true) (h2 : daysUp l = false) : logOfF l = (⟨#[]⟩, 6) := by simp only [logOfF, h, h2, if_true, Bool.false_eq_true, if_false]
theorem logOfF_full {l : List En} (h : l.all okEn = true) (h2 : daysUp l = true) (h3 : 4000 < (logTo l l.length).size) : logOfF l = (⟨#[]⟩, 5) := by simp only [logOfF, h, h2, h3, if_true]
theorem logOfF_ok {l : List En} (h : l.all okEn = true) (h2 : daysUp l = true) (h3 : ¬ 4000 < (logTo l l.length).size) : logOfF l = (logTo l l.length, 0) := by simp only [logOfF, h, h2, h3, if_true, if_false]
end Go.Proofs.YtjmlcobbjpmjpaaDoor
