/- The fewest stations with a share of all events: the plain law. -/
import Derived.Test.YtjmlcobbjpmjpaaDoorBest
import Derived.Test.YtjmlcobbjpmjpaaDoorEvC
set_option linter.unusedVariables false
namespace Go.Proofs.YtjmlcobbjpmjpaaDoor
open Go.RowKit

def posI (x : Int) : Int := if 0 ≤ x then x else 0
def tot : List Int → Int
  | [] => 0
  | x :: xs => posI x + tot xs
def cntN : List Int → Nat
  | [] => 0
  | x :: xs => (if 0 ≤ x then 1 else 0) + cntN xs
theorem tot_set : ∀ (c : List Int) (k : Nat) (v u : Int), c[k]? = some v → tot (c.set k u) = tot c - posI v + posI u
  | [], k, v, u, h => by simp at h
  | x :: xs, 0, v, u, h => by simp at h; subst h; simp [tot]; omega
  | x :: xs, k + 1, v, u, h => by
    have := tot_set xs k v u (by simpa using h)
    simp only [List.set_cons_succ, tot, this]; omega
theorem cnt_set : ∀ (c : List Int) (k : Nat) (v : Int), c[k]? = some v → 0 ≤ v → cntN (c.set k (-1)) + 1 = cntN c
  | [], k, v, h, _ => by simp at h
  | x :: xs, 0, v, h, hv => by simp at h; subst h; simp [cntN, hv]; omega
  | x :: xs, k + 1, v, h, hv => by
    have := cnt_set xs k v (by simpa using h) hv
    simp only [List.set_cons_succ, cntN]; omega
theorem tot_none : ∀ (c : List Int), (∀ x ∈ c, x ≤ 0) → tot c = 0
  | [], _ => rfl
  | x :: xs, h => by
    have h1 := tot_none xs (fun y hy => h y (List.mem_cons_of_mem _ hy))
    have h2 := h x List.mem_cons_self
    rw [tot, h1]; unfold posI; split <;> omega
theorem tot_zer (m : Nat) : tot (zer m) = 0 := tot_none _ (fun x hx => by simp [zer] at hx; omega)
theorem cnt_all : ∀ (c : List Int), (∀ x ∈ c, 0 ≤ x) → cntN c = c.length
  | [], _ => rfl
  | x :: xs, h => by
    have h1 := cnt_all xs (fun y hy => h y (List.mem_cons_of_mem _ hy))
    have h2 := h x List.mem_cons_self
    simp [cntN, h1, h2]; omega
theorem tot_hist (f : Ev → Int) (m : Nat) (l : List Ev) (h : ∀ e ∈ l, 0 ≤ f e ∧ f e < m) : tot (histOf f m l) = l.length := by
  have key : ∀ (l : List Ev) (hs : List Int), hs.length = m → (∀ x ∈ hs, 0 ≤ x) → (∀ e ∈ l, 0 ≤ f e ∧ f e < m) → tot (l.foldl (fun hs e => bump hs (f e)) hs) = tot hs + (l.length : Int) := by
    intro l
    induction l with
    | nil => intro hs _ _ _; simp
    | cons a l ih =>
      intro hs hl h0 hm
      have ha := hm a List.mem_cons_self
      have hk : (f a).toNat < hs.length := by omega
      have hg : hs[(f a).toNat]? = some (hs[(f a).toNat]'hk) := List.getElem?_eq_getElem hk
      have hv := h0 _ (List.mem_of_getElem? hg)
      have hb : tot (bump hs (f a)) = tot hs + 1 := by
        rw [bump, tot_set _ _ _ _ hg, hg]
        simp only [Option.getD_some]
        unfold posI
        rw [if_pos hv, if_pos (by omega)]; omega
      have h1 : ∀ x ∈ bump hs (f a), 0 ≤ x := by
        intro x hx
        rcases List.mem_or_eq_of_mem_set hx with h2 | h2
        · exact h0 x h2
        · subst h2; rw [hg]; simp only [Option.getD_some]; omega
      have := ih (bump hs (f a)) (by rw [bump_length]; exact hl) h1 (fun e he => hm e (List.mem_cons_of_mem _ he))
      rw [List.foldl_cons, this, hb, List.length_cons]
      omega
  have := key l (zer m) (zer_length m) (fun x hx => by simp [zer] at hx; omega) h
  rw [tot_zer] at this
  unfold histOf
  omega

/-- The counts, the sum and the stations told behind j rounds. -/
def fewSt (cs : List Int) : Nat → List Int × Int × List Int
  | 0 => (cs, 0, [])
  | j + 1 => ((fewSt cs j).1.set (bestTo (fewSt cs j).1 10) (-1), (fewSt cs j).2.1 + valTo (fewSt cs j).1 10, (fewSt cs j).2.2 ++ [((bestTo (fewSt cs j).1 10 : Nat) : Int)])
def fewJ (cs : List Int) (pn : Int) : Nat → Nat → Nat
  | 0, j => j
  | f + 1, j => if 1000 * (fewSt cs j).2.1 < pn then fewJ cs pn f (j + 1) else j
theorem fewJ_at (cs : List Int) (pn : Int) (j : Nat) (hj : ¬ 1000 * (fewSt cs j).2.1 < pn) (hall : ∀ i, i < j → 1000 * (fewSt cs i).2.1 < pn) : ∀ f i, i ≤ j → j < i + f → fewJ cs pn f i = j
  | 0, i, h1, h2 => by omega
  | f + 1, i, h1, h2 => by
    rw [fewJ]
    by_cases e : i = j
    · subst e; rw [if_neg hj]
    · rw [if_pos (hall i (by omega))]
      exact fewJ_at cs pn j hj hall f (i + 1) (by omega) (by omega)
/-- What holds of the counts behind j rounds. -/
structure FewInv (cs : List Int) (n : Int) (j : Nat) : Prop where
  len : (fewSt cs j).1.length = 10
  out : (fewSt cs j).2.2.length = j
  bd : ∀ x ∈ (fewSt cs j).1, -1 ≤ x ∧ x ≤ n
  tot : tot (fewSt cs j).1 = n - (fewSt cs j).2.1
  cnt : cntN (fewSt cs j).1 + j = 10
  s0 : 0 ≤ (fewSt cs j).2.1
  s1 : (fewSt cs j).2.1 ≤ n
theorem tot_nonneg : ∀ c : List Int, 0 ≤ tot c
  | [] => by simp [tot]
  | x :: xs => by have := tot_nonneg xs; rw [tot]; unfold posI; split <;> omega
theorem FewInv.start {cs : List Int} {n : Int} (hl : cs.length = 10) (hb : ∀ x ∈ cs, 0 ≤ x ∧ x ≤ n) (ht : Go.Proofs.YtjmlcobbjpmjpaaDoor.tot cs = n) : FewInv cs n 0 := by
  refine ⟨hl, rfl, fun x hx => ?_, by simp [fewSt, ht], ?_, by simp [fewSt], ?_⟩
  · have := hb x hx; omega
  · have := cnt_all cs (fun x hx => (hb x hx).1); simp only [fewSt]; omega
  · have := tot_nonneg cs; simp only [fewSt]; omega
/-- What the round knows and leaves. -/
theorem FewInv.round {cs : List Int} {n : Int} {j : Nat} (h : FewInv cs n j) (hp : (fewSt cs j).2.1 < n) :
    bestTo (fewSt cs j).1 10 < 10 ∧ (fewSt cs j).1[bestTo (fewSt cs j).1 10]? = some (valTo (fewSt cs j).1 10) ∧ 0 < valTo (fewSt cs j).1 10 ∧ valTo (fewSt cs j).1 10 ≤ n ∧ FewInv cs n (j + 1) := by
  have hl := h.len
  have hb := bestTo_lt' (fewSt cs j).1 (k := 10) (by omega)
  have hg : (fewSt cs j).1[bestTo (fewSt cs j).1 10]? = some (valTo (fewSt cs j).1 10) := by
    rw [List.getElem?_eq_getElem (by omega)]
    rw [valTo]; simp [List.getD, List.getElem?_eq_getElem (show bestTo (fewSt cs j).1 10 < (fewSt cs j).1.length by omega)]
  have hpos : 0 < valTo (fewSt cs j).1 10 := by
    rcases Int.lt_or_le 0 (valTo (fewSt cs j).1 10) with h1 | h1
    · exact h1
    · have := tot_none (fewSt cs j).1 (fun x hx => by
        obtain ⟨i, hi, rfl⟩ := List.mem_iff_getElem.1 hx
        have := best_le (fewSt cs j).1 10 i (by omega)
        rw [getD_of (List.getElem?_eq_getElem hi)] at this
        omega)
      have := h.tot
      omega
  have hvn := h.bd _ (List.mem_of_getElem? hg)
  refine ⟨hb, hg, hpos, hvn.2, ?_⟩
  have hset := tot_set _ _ _ (-1) hg
  have hcnt := cnt_set _ _ _ hg (by omega)
  have h1 : posI (valTo (fewSt cs j).1 10) = valTo (fewSt cs j).1 10 := by unfold posI; rw [if_pos (by omega)]
  have h2 : posI (-1) = 0 := by decide
  have hz := tot_nonneg ((fewSt cs j).1.set (bestTo (fewSt cs j).1 10) (-1))
  have ht := h.tot
  have hc := h.cnt
  have hs := h.s0
  refine ⟨by simp only [fewSt, List.length_set]; exact hl, by simp only [fewSt, List.length_append, h.out]; rfl, fun x hx => ?_, ?_, ?_, ?_, ?_⟩
  · rcases List.mem_or_eq_of_mem_set hx with h3 | h3
    · exact h.bd x h3
    · omega
  · simp only [fewSt]; omega
  · simp only [fewSt]; omega
  · simp only [fewSt]; omega
  · simp only [fewSt]; omega
theorem stations_start {l : List Ev} (h : okEv l = true) : FewInv (stationsOf l) l.length 0 :=
  FewInv.start (histOf_length _ _ _) (fun x hx => histOf_bound _ _ l x hx) (tot_hist _ _ l (fun e he => by
    obtain ⟨i, hi, rfl⟩ := List.mem_iff_getElem.1 he
    have := okE_s (okEv_all h (List.getElem?_eq_getElem hi))
    omega))
end Go.Proofs.YtjmlcobbjpmjpaaDoor
