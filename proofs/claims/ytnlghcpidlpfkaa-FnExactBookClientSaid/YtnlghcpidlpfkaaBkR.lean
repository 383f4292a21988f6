/- Bookings: one added: the plain law. -/
import Derived.Test.YtnlghcpidlpfkaaBkF
import Derived.Test.YtnlghcpidlpfkaaIns
set_option linter.unusedVariables false
namespace Go.Proofs.Ytnlghcpidlpfkaa
open Go.RowKit

theorem info_bk : (Try.prog.info? 45).map (fun i => (i.zero, i.size, i.bytes)) = some (some (.agg #[.int .i64 0, .string ⟨#[]⟩, .int .i64 0]), 3, 32) := by kernel_rfl
theorem bks_one (l : List Bk) : ∀ u ∈ bks l, u.oneCell' = true := by
  intro u hu
  simp only [bks, List.mem_flatMap, cellsBk, List.mem_cons, List.not_mem_nil, or_false] at hu
  obtain ⟨x, _, h⟩ := hu
  rcases h with rfl | rfl | rfl <;> rfl
theorem bk1 (x : Bk) : ∀ u ∈ cellsBk x, u.oneCell' = true := fun u hu => bks_one [x] u (by simpa [bks] using hu)
def lateB (d : Int) (y : Bk) : Bool := decide (d < y.day)
def cutBk (l : List Bk) (d : Int) : Nat := l.findIdx (lateB d)
theorem idx_cut (l : List Bk) (d : Int) : (idxI (lateB d) l = -1 ∧ cutBk l d = l.length) ∨ (idxI (lateB d) l = (cutBk l d : Nat) ∧ cutBk l d < l.length) := by
  unfold idxI cutBk
  rcases h : l.findIdx? (lateB d) with _ | i
  · left; exact ⟨rfl, List.findIdx?_eq_none_iff_findIdx_eq.1 h⟩
  · right
    obtain ⟨h1, h2⟩ := List.findIdx?_eq_some_iff_findIdx_eq.1 h
    exact ⟨by simp [h2], by omega⟩
theorem cutBk_mk {l : List Bk} {d : Int} {k : Nat} (hok : okBks l = true) (hk : k ≤ l.length) (hhi : ∀ (j : Nat) (y : Bk), k ≤ j → l[j]? = some y → d < y.day) (hlo : k = 0 ∨ ∃ y, l[k - 1]? = some y ∧ y.day ≤ d) : cutBk l d = k := by
  have hle : cutBk l d ≤ l.length := List.findIdx_le_length
  apply Nat.le_antisymm
  · rcases Nat.lt_or_ge k (cutBk l d) with hlt | hge
    · have hi : k < l.length := by omega
      have h1 := List.not_of_lt_findIdx hlt
      have h2 := hhi k l[k] (Nat.le_refl _) (List.getElem?_eq_getElem hi)
      simp [lateB] at h1
      omega
    · exact hge
  · rcases Nat.lt_or_ge (cutBk l d) k with hlt | hge
    · have hc : cutBk l d < l.length := by omega
      have h1 : lateB d l[cutBk l d] = true := List.findIdx_getElem (w := hc)
      have h1' : d < l[cutBk l d].day := by simpa [lateB] using h1
      rcases hlo with h0 | ⟨z, hz, hs⟩
      · omega
      · obtain ⟨q, hq⟩ : ∃ q, k - 1 = cutBk l d + q := ⟨k - 1 - cutBk l d, by omega⟩
        rw [hq] at hz
        have := okBks_sorted hok (List.getElem?_eq_getElem hc) q z hz
        omega
    · exact hge
def insBk {α : Type} (l : List α) (k : Nat) (x : α) : List α := l.take k ++ x :: l.drop k
theorem insBk_length {α : Type} (l : List α) (k : Nat) (x : α) : (insBk l k x).length = l.length + 1 := by
  simp [insBk]
  omega
theorem bks_app (a b : List Bk) : bks (a ++ b) = bks a ++ bks b := by simp [bks]
theorem bks_take (l : List Bk) (k : Nat) : (bks l).take (k * 3) = bks (l.take k) := by
  have h1 : bks l = bks (l.take k) ++ bks (l.drop k) := by rw [← bks_app, List.take_append_drop]
  rcases Nat.lt_or_ge l.length k with h | h
  · rw [List.take_of_length_le (show l.length ≤ k by omega), List.take_of_length_le (show (bks l).length ≤ k * 3 by rw [bks_length]; omega)]
  · have h2 : (bks (l.take k)).length = k * 3 := by rw [bks_length, List.length_take, Nat.min_eq_left h]
    rw [h1, ← h2, List.take_left]
theorem bks_drop (l : List Bk) (k : Nat) : (bks l).drop (k * 3) = bks (l.drop k) := by
  have h1 : bks l = bks (l.take k) ++ bks (l.drop k) := by rw [← bks_app, List.take_append_drop]
  rcases Nat.lt_or_ge l.length k with h | h
  · rw [List.drop_eq_nil_of_le (show l.length ≤ k by omega), List.drop_eq_nil_of_le (show (bks l).length ≤ k * 3 by rw [bks_length]; omega)]
    rfl
  · have h2 : (bks (l.take k)).length = k * 3 := by rw [bks_length, List.length_take, Nat.min_eq_left h]
    rw [h1, ← h2, List.drop_left]
theorem bks_ins (l : List Bk) (k : Nat) (x : Bk) : bks (insBk l k x) = (bks l).take (k * 3) ++ cellsBk x ++ (bks l).drop (k * 3) := by
  rw [insBk, bks_take, bks_drop, bks_app, List.append_assoc]
  rfl
def bookF (l : List Bk) (x : Bk) : List Bk × Int :=
  if okBks l = true then (if okBk x = true then (if 80 ≤ l.length then ([], 5) else (insBk l (cutBk l x.day) x, 0)) else ([], 2)) else ([], 1)
theorem bookF_bad {l : List Bk} {x : Bk} (h : okBks l = false) : bookF l x = ([], 1) := by simp [bookF, h]
theorem bookF_range {l : List Bk} {x : Bk} (h : okBks l = true) (hx : okBk x = false) : bookF l x = ([], 2) := by simp [bookF, h, hx]
theorem bookF_full {l : List Bk} {x : Bk} (h : okBks l = true) (hx : okBk x = true) (hl : 80 ≤ l.length) : bookF l x = ([], 5) := by simp [bookF, h, hx, hl]
theorem bookF_ok {l : List Bk} {x : Bk} (h : okBks l = true) (hx : okBk x = true) (hl : ¬ 80 ≤ l.length) {i : Nat} (hi : cutBk l x.day = i) : bookF l x = (insBk l i x, 0) := by
  unfold bookF
  rw [if_pos h, if_pos hx, if_neg hl, hi]
theorem bookF_len (l : List Bk) (x : Bk) : (bookF l x).1.length ≤ 81 := by
  unfold bookF
  split
  · split
    · split
      · simp
      · simp only [insBk_length]; omega
    · simp
  · simp
theorem cntBookClient_len {l : List Bk} {x : Bk} {m : Nat} (h : (bks (bookF l x).1).length = m * 3) : m ≤ 1048576 := by
  rw [bks_length] at h
  have := bookF_len l x
  omega
end Go.Proofs.Ytnlghcpidlpfkaa
