/- Rows of numbers, each in a block of its own; one element appended, block by block. No function of the program in sight. -/
import Derived.Test.YtjmlcobbjpmjpaaDoorEvC
import Derived.Test.YtjmlcobbjpmjpaaDoorOneF
set_option linter.unusedVariables false
namespace Go.Proofs.YtjmlcobbjpmjpaaDoor
open Go.RowKit

/-- The head of a row of m numbers in block g. -/
def hdr (m g : Nat) : Value := .slice (some ⟨g, 0, none⟩) m m
def hdrs (m : Nat) (gs : List Nat) : List Value := gs.map (hdr m)
theorem hdrs_length (m : Nat) (gs : List Nat) : (hdrs m gs).length = gs.length := by simp [hdrs]
theorem hdrs_get {m k g : Nat} {gs : List Nat} (h : gs[k]? = some g) : (hdrs m gs)[k]? = some (.slice (some ⟨g, 0, none⟩) m m) := by simp [hdrs, h, hdr]
/-- The k-th row lies in block gs[k] and reads as R k. -/
structure Mat (w : World) (lo hi m : Nat) (t : TypeId) (gs : List Nat) (R : Nat → List Int) : Prop where
  nodup : gs.Nodup
  row : ∀ (k g : Nat), gs[k]? = some g → lo ≤ g ∧ g < hi ∧ (R k).length = m ∧ Blk w g t (ints (R k)).toArray
section
variable {w w' : World} {lo hi lo' hi' m : Nat} {t : TypeId} {gs : List Nat} {R R' : Nat → List Int}
theorem Mat.nil (w : World) (lo hi m : Nat) (t : TypeId) (R : Nat → List Int) : Mat w lo hi m t [] R := ⟨List.nodup_nil, fun k g h => by simp at h⟩
theorem Mat.keep (h : Mat w lo hi m t gs R) (hk : ∀ g, g ∈ gs → w'.heap[g]? = w.heap[g]?) : Mat w' lo hi m t gs R :=
  ⟨h.nodup, fun k g hg => by obtain ⟨a, b, c, d⟩ := h.row k g hg; exact ⟨a, b, c, (hk g (List.mem_of_getElem? hg)).trans d⟩⟩
theorem Mat.mem (h : Mat w lo hi m t gs R) {g : Nat} (hg : g ∈ gs) : lo ≤ g ∧ g < hi ∧ g < w.heap.size := by
  obtain ⟨k, hk, rfl⟩ := List.mem_iff_getElem.1 hg
  obtain ⟨a, b, _, d⟩ := h.row k _ (List.getElem?_eq_getElem hk)
  exact ⟨a, b, d.lt⟩
theorem Mat.on (h : Mat w lo hi m t gs R) (hb : Below w.heap.size w w') : Mat w' lo hi m t gs R := h.keep fun g hg => hb.block g (h.mem hg).2.2
theorem Mat.apart (h : Mat w lo hi m t gs R) (ho : Only lo' hi' w w') (hd : hi ≤ lo' ∨ hi' ≤ lo) : Mat w' lo hi m t gs R := h.keep fun g hg => by
  have := h.mem hg
  exact ho.block g this.2.2 (by omega)
theorem Mat.wide (h : Mat w lo hi m t gs R) (h1 : lo' ≤ lo) (h2 : hi ≤ hi') : Mat w lo' hi' m t gs R :=
  ⟨h.nodup, fun k g hg => by obtain ⟨a, b, c, d⟩ := h.row k g hg; exact ⟨by omega, by omega, c, d⟩⟩
theorem Mat.snoc (h : Mat w lo hi m t gs R) {g : Nat} (hg : g ∉ gs) (h1 : lo ≤ g) (h2 : g < hi) (hm : (R gs.length).length = m) (hb : Blk w g t (ints (R gs.length)).toArray) : Mat w lo hi m t (gs ++ [g]) R := by
  refine ⟨?_, fun k g' hk => ?_⟩
  · rw [List.nodup_append]
    refine ⟨h.nodup, by simp, ?_⟩
    intro a ha b hb' e
    simp at hb'
    subst hb' e
    exact hg ha
  · by_cases e : k < gs.length
    · rw [List.getElem?_append_left e] at hk
      exact h.row k g' hk
    · rw [List.getElem?_append_right (by omega)] at hk
      have hk0 : k - gs.length = 0 := by
        rcases Nat.eq_zero_or_pos (k - gs.length) with h0 | h0
        · exact h0
        · rw [List.getElem?_eq_none (by simp; omega)] at hk; cases hk
      rw [hk0] at hk
      simp at hk
      subst hk
      obtain rfl : k = gs.length := by omega
      exact ⟨h1, h2, hm, hb⟩
theorem Mat.set_ (h : Mat w lo hi m t gs R) {k g x : Nat} {y : Int} (hg : gs[k]? = some g) (h1 : R' k = (R k).set x y) (h2 : ∀ j, j ≠ k → R' j = R j) : Mat (w.setCell ⟨g, x, none⟩ (.int .i64 y)) lo hi m t gs R' := by
  refine ⟨h.nodup, fun j g' hj => ?_⟩
  obtain ⟨a, b, c, d⟩ := h.row j g' hj
  by_cases e : j = k
  · subst e
    rw [hg] at hj; injection hj with hj; subst hj
    rw [h1]
    exact ⟨a, b, by rw [List.length_set]; exact c, ints_set d x y⟩
  · rw [h2 j e]
    refine ⟨a, b, c, d.far ?_ _⟩
    intro ee
    simp only at ee
    subst ee
    exact e ((List.getElem?_inj (List.getElem?_eq_some_iff.1 hj).1 h.nodup).1 (hj.trans hg.symm))
/-- The rows are what R' says too. -/
theorem Mat.congr (h : Mat w lo hi m t gs R) (hR : ∀ k, k < gs.length → R' k = R k) : Mat w lo hi m t gs R' :=
  ⟨h.nodup, fun k g hg => by rw [hR k (List.getElem?_eq_some_iff.1 hg).1]; exact h.row k g hg⟩
theorem Mat.sl (h : Mat w lo hi m t gs R) {k g : Nat} (hg : gs[k]? = some g) (hm : m ≤ maxLen) : Sl w g (g + 1) t 1 (some ⟨g, 0, none⟩) m m (ints (R k)) := by
  obtain ⟨a, b, c, d⟩ := h.row k g hg
  exact Sl.of_blk d (Nat.le_refl _) (by omega) (by rw [ints_length]; omega) hm
end
/-- The slice of the rows' heads, and the rows. -/
def Sq (w : World) (lo hi m : Nat) (t tt : TypeId) (A : Option Addr) (n c : Nat) (gs : List Nat) (R : Nat → List Int) : Prop :=
  Sl w lo hi tt 1 A n c (hdrs m gs) ∧ Mat w lo hi m t gs R ∧ ∀ ad, A = some ad → ad.block ∉ gs
section
variable {w w' : World} {lo hi lo' hi' m n c : Nat} {t tt : TypeId} {A : Option Addr} {gs : List Nat} {R R' : Nat → List Int}
theorem Sq.on (h : Sq w lo hi m t tt A n c gs R) (hb : Below w.heap.size w w') : Sq w' lo hi m t tt A n c gs R := ⟨h.1.on hb, h.2.1.on hb, h.2.2⟩
theorem Sq.apart (h : Sq w lo hi m t tt A n c gs R) (ho : Only lo' hi' w w') (hd : hi ≤ lo' ∨ hi' ≤ lo) : Sq w' lo hi m t tt A n c gs R := ⟨h.1.apart ho hd, h.2.1.apart ho hd, h.2.2⟩
theorem Sq.wide (h : Sq w lo hi m t tt A n c gs R) (h1 : lo' ≤ lo) (h2 : hi ≤ hi') : Sq w lo' hi' m t tt A n c gs R := ⟨h.1.wide h1 h2, h.2.1.wide h1 h2, h.2.2⟩
theorem Sq.len (h : Sq w lo hi m t tt A n c gs R) : gs.length = n := by have := h.1.len; rw [hdrs_length] at this; omega
/-- A number of a row turned; the heads stand. -/
theorem Sq.set_ (h : Sq w lo hi m t tt A n c gs R) {k g x : Nat} {y : Int} (hg : gs[k]? = some g) (h1 : R' k = (R k).set x y) (h2 : ∀ j, j ≠ k → R' j = R j) : Sq (w.setCell ⟨g, x, none⟩ (.int .i64 y)) lo hi m t tt A n c gs R' := by
  refine ⟨?_, h.2.1.set_ hg h1 h2, h.2.2⟩
  refine ⟨⟨h.1.1.1, ?_⟩, h.1.2⟩
  rcases h.1.1.2 with hn | ⟨g', cap, cur, h', hb, hgg, rest⟩
  · exact .inl hn
  · refine .inr ⟨g', cap, cur, h', hb, ?_, rest⟩
    injection h' with e1
    rw [Below.heap_setCell]
    · exact hgg
    · intro e
      simp only at e
      subst e
      exact h.2.2 _ e1 (List.mem_of_getElem? hg)
theorem Sq.head (h : Sq w lo hi m t tt A n c gs R) {k : Nat} (hk : k < n) : ∃ go g, A = some ⟨go, 0, none⟩ ∧ gs[k]? = some g ∧ w.cell? ⟨go, k, none⟩ = some (.slice (some ⟨g, 0, none⟩) m m) ∧ lo ≤ g ∧ g < hi ∧ g < w.heap.size ∧ go < w.heap.size := by
  obtain ⟨go, rfl, _, _, hlt⟩ := h.1.lt (by omega)
  have hg : gs[k]? = some (gs[k]'(by rw [h.len]; exact hk)) := List.getElem?_eq_getElem _
  obtain ⟨a, b, _, d⟩ := h.2.1.row k _ hg
  exact ⟨go, _, rfl, hg, by rw [h.1.cellAt k (by omega)]; exact hdrs_get hg, a, b, d.lt, hlt⟩
end

def zerR : Nat → List Int := fun _ => zer 24
/-- The hours of station k's events. -/
def crossRow (l : List Ev) (k : Nat) : List Int := histOf (·.h) 24 (l.filter fun e => e.s == (k : Int))
theorem crossRow_nil : crossRow [] = zerR := rfl
theorem crossRow_len (l : List Ev) (k : Nat) : (crossRow l k).length = 24 := histOf_length _ _ _
theorem crossRow_step {l : List Ev} {j : Nat} {e : Ev} (he : l[j]? = some e) (k : Nat) (hk : e.s = k) (x : Nat) (hx : e.h = x) {y : Int} (hy : (crossRow (l.take j) k)[x]? = some y) :
    crossRow (l.take (j + 1)) k = (crossRow (l.take j) k).set x (y + 1) ∧ ∀ i, i ≠ k → crossRow (l.take (j + 1)) i = crossRow (l.take j) i := by
  have hsnoc : l.take (j + 1) = l.take j ++ [e] := by rw [List.take_add_one, he]; rfl
  constructor
  · unfold crossRow at hy ⊢
    rw [hsnoc, List.filter_append, List.filter_cons, hk]
    simp only [beq_self_eq_true, if_true, List.filter_nil]
    unfold histOf at hy ⊢
    rw [List.foldl_append]
    simp only [List.foldl_cons, List.foldl_nil]
    rw [bump, hx, Int.toNat_natCast, hy]
    rfl
  · intro i hi
    unfold crossRow
    rw [hsnoc, List.filter_append, List.filter_cons, hk, if_neg (by simp; omega)]
    simp
theorem crossRow_bd (l : List Ev) (k : Nat) : ∀ y ∈ crossRow l k, 0 ≤ y ∧ y ≤ (l.length : Int) := fun y hy => by
  have h1 := histOf_bound _ _ _ y hy
  have h2 := List.length_filter_le (fun e : Ev => e.s == (k : Int)) l
  omega
end Go.Proofs.YtjmlcobbjpmjpaaDoor
