/- The search for a carrier: plain. The next opening, the openings until a section is clear. The order in which items of a queue are sent: plain. Numbers outside a range: the program's outside. The log of a list: the plain law. One step of the reading of a log: the plain law. Times and ways tested by the program. Runs tested by the program. -/
import Derived.Test.YtjalgpioklcbfaaGreatDoorMgConsoleAF
set_option linter.unusedVariables false
set_option linter.unusedSimpArgs false
namespace Go.Proofs.YtjalgpioklcbfaaGreatDoor
open Go.RowKit

def okOp (ps : List Int) : Bool := (ps.all fun x => inR x 1 1000) && decide (ps.length ≤ 9)
theorem okOp_at {ps : List Int} (h : okOp ps = true) (i : Int) (h0 : 0 ≤ i) (h1 : i < ps.length) : 1 ≤ at0 ps i ∧ at0 ps i ≤ 1000 := by
  unfold okOp at h
  simp only [Bool.and_eq_true, List.all_eq_true] at h
  have hl : i.toNat < ps.length := by omega
  have := inR_true.1 (h.1 ps[i.toNat] (List.getElem_mem hl))
  have e : at0 ps i = ps[i.toNat] := by unfold at0; rw [List.getD_eq_getElem?_getD, List.getElem?_eq_getElem hl]; rfl
  rw [e]; exact this
/-- The loop over the next opening: the least of the greatest prices, the first place where it is met. -/
def lpW (pr : Int → Int → Int) (ps : List Int) (lo hi : Int) : Nat → Int → Int × Int → Int × Int
  | 0, _, acc => acc
  | d + 1, k, acc => lpW pr ps lo hi d (k + 1) (if acc.2 < 0 ∨ at0 ps k + max (pr lo k) (pr (k + 1) hi) < acc.1 then (at0 ps k + max (pr lo k) (pr (k + 1) hi), k) else acc)
def worst (ps : List Int) : Nat → Int → Int → Int × Int
  | 0, _, _ => (0, -1)
  | f + 1, lo, hi => lpW (fun a b => (worst ps f a b).1) ps lo hi (hi - lo).toNat lo (0, -1)
def worstF (ps : List Int) (lo hi : Int) : Int × Int := worst ps (hi - lo).toNat lo hi
theorem lpW_congr {pr pr' : Int → Int → Int} {ps : List Int} {lo hi : Int} : ∀ (d : Nat) (k : Int) (acc : Int × Int), lo ≤ k → k + d ≤ hi → (∀ j, lo ≤ j → j < hi → pr lo j = pr' lo j ∧ pr (j + 1) hi = pr' (j + 1) hi) → lpW pr ps lo hi d k acc = lpW pr' ps lo hi d k acc
  | 0, _, _, _, _, _ => rfl
  | d + 1, k, acc, h0, h1, h => by
    unfold lpW
    obtain ⟨e1, e2⟩ := h k h0 (by omega)
    rw [e1, e2]
    exact lpW_congr d (k + 1) _ (by omega) (by omega) h
theorem worst_fuel (ps : List Int) : ∀ (f g : Nat) (lo hi : Int), (hi - lo).toNat ≤ f → (hi - lo).toNat ≤ g → worst ps f lo hi = worst ps g lo hi
  | 0, 0, _, _, _, _ => rfl
  | 0, g + 1, lo, hi, hf, hg => by
    unfold worst
    rw [show (hi - lo).toNat = 0 by omega]; rfl
  | f + 1, 0, lo, hi, hf, hg => by
    unfold worst
    rw [show (hi - lo).toNat = 0 by omega]; rfl
  | f + 1, g + 1, lo, hi, hf, hg => by
    unfold worst
    by_cases hlt : lo < hi
    · exact lpW_congr _ _ _ (Int.le_refl _) (by omega) (fun j h0 h1 => ⟨by rw [worst_fuel ps f g lo j (by omega) (by omega)], by rw [worst_fuel ps f g (j + 1) hi (by omega) (by omega)]⟩)
    · rw [show (hi - lo).toNat = 0 by omega]; rfl
theorem worstF_none {ps : List Int} {lo hi : Int} (h : hi ≤ lo) : worstF ps lo hi = (0, -1) := by
  unfold worstF; rw [show (hi - lo).toNat = 0 by omega]; rfl
theorem worstF_loop (ps : List Int) (lo hi : Int) : worstF ps lo hi = lpW (fun a b => (worstF ps a b).1) ps lo hi (hi - lo).toNat lo (0, -1) := by
  by_cases hlt : lo < hi
  · have e : (hi - lo).toNat = ((hi - lo).toNat - 1) + 1 := by omega
    have e2 : worstF ps lo hi = lpW (fun a b => (worst ps ((hi - lo).toNat - 1) a b).1) ps lo hi (hi - lo).toNat lo (0, -1) := by
      unfold worstF
      obtain ⟨m, hm⟩ : ∃ m, (hi - lo).toNat - 1 = m := ⟨_, rfl⟩
      rw [hm] at e ⊢
      rw [show worst ps (hi - lo).toNat lo hi = worst ps (m + 1) lo hi by rw [e]]
      rfl
    rw [e2]
    exact lpW_congr _ _ _ (Int.le_refl _) (by omega) (fun j h0 h1 => ⟨by unfold worstF; rw [worst_fuel ps _ (j - lo).toNat lo j (by omega) (by omega)], by unfold worstF; rw [worst_fuel ps _ (hi - (j + 1)).toNat (j + 1) hi (by omega) (by omega)]⟩)
  · rw [worstF_none (by omega), show (hi - lo).toNat = 0 by omega]; rfl
theorem lpW_bd {pr : Int → Int → Int} {ps : List Int} {lo hi : Int} (hps : ∀ j, lo ≤ j → j < hi → 1 ≤ at0 ps j ∧ at0 ps j ≤ 1000) (h : ∀ j, lo ≤ j → j < hi → (0 ≤ pr lo j ∧ pr lo j ≤ 1000 * (hi - lo - 1)) ∧ (0 ≤ pr (j + 1) hi ∧ pr (j + 1) hi ≤ 1000 * (hi - lo - 1))) :
    ∀ (d : Nat) (k : Int) (acc : Int × Int), lo ≤ k → k + d = hi → (k = lo ∨ (lo ≤ acc.2 ∧ acc.2 < hi)) → (acc = (0, -1) ∨ (lo ≤ acc.2 ∧ acc.2 < hi ∧ 0 ≤ acc.1 ∧ acc.1 ≤ 1000 * (hi - lo))) → 0 ≤ lo →
    ((lo < hi → lo ≤ (lpW pr ps lo hi d k acc).2 ∧ (lpW pr ps lo hi d k acc).2 < hi) ∧ 0 ≤ (lpW pr ps lo hi d k acc).1 ∧ (lpW pr ps lo hi d k acc).1 ≤ 1000 * (hi - lo))
  | 0, k, acc, h0, h1, h2, h3, h4 => by
    unfold lpW
    have : k = hi := by omega
    refine ⟨fun hlt => ?_, ?_⟩
    · rcases h2 with h2 | h2
      · omega
      · exact h2
    · rcases h3 with rfl | h3
      · refine ⟨Int.le_refl _, ?_⟩; show (0 : Int) ≤ _; omega
      · omega
  | d + 1, k, acc, h0, h1, h2, h3, h4 => by
    unfold lpW
    have hk := hps k h0 (by omega)
    have hp := h k h0 (by omega)
    split
    · exact lpW_bd hps h d (k + 1) _ (by omega) (by omega) (.inr ⟨h0, by show k < hi; omega⟩) (.inr ⟨h0, by show k < hi; omega, by show 0 ≤ at0 ps k + max _ _; omega, by show at0 ps k + max _ _ ≤ _; omega⟩) h4
    · rename_i hc
      rcases h3 with rfl | h3
      · exact absurd (.inl (by decide)) hc
      · exact lpW_bd hps h d (k + 1) _ (by omega) (by omega) (.inr ⟨h3.1, h3.2.1⟩) (.inr h3) h4
theorem worstF_bd {ps : List Int} (h : okOp ps = true) : ∀ (n : Nat) (lo hi : Int), (hi - lo).toNat ≤ n → 0 ≤ lo → lo ≤ hi → hi ≤ ps.length → ((lo < hi → lo ≤ (worstF ps lo hi).2 ∧ (worstF ps lo hi).2 < hi) ∧ 0 ≤ (worstF ps lo hi).1 ∧ (worstF ps lo hi).1 ≤ 1000 * (hi - lo))
  | 0, lo, hi, hn, h0, h1, h2 => by
    rw [worstF_none (by omega)]
    exact ⟨fun hlt => by omega, Int.le_refl _, by show (0 : Int) ≤ _; omega⟩
  | n + 1, lo, hi, hn, h0, h1, h2 => by
    rw [worstF_loop]
    refine lpW_bd (fun j k0 k1 => okOp_at h j (by omega) (by omega)) (fun j k0 k1 => ?_) _ lo _ (Int.le_refl _) (by omega) (.inl rfl) (.inl rfl) h0
    have a1 := worstF_bd h n lo j (by omega) h0 k0 (by omega)
    have a2 := worstF_bd h n (j + 1) hi (by omega) (by omega) (by omega) h2
    exact ⟨⟨a1.2.1, by have := a1.2.2; omega⟩, ⟨a2.2.1, by have := a2.2.2; omega⟩⟩
theorem worstF_ok {ps : List Int} (h : okOp ps = true) {lo hi : Int} (h0 : 0 ≤ lo) (h1 : lo ≤ hi) (h2 : hi ≤ ps.length) : (lo < hi → lo ≤ (worstF ps lo hi).2 ∧ (worstF ps lo hi).2 < hi) ∧ 0 ≤ (worstF ps lo hi).1 ∧ (worstF ps lo hi).1 ≤ 1000 * (hi - lo) := worstF_bd h _ lo hi (Nat.le_refl _) h0 h1 h2
/-- The openings until a section is clear. -/
def findF (ps : List Int) (sec : Int) : Nat → Int → Int → List Int
  | 0, _, _ => []
  | f + 1, lo, hi => if lo < hi then (worstF ps lo hi).2 :: (if sec ≤ (worstF ps lo hi).2 then findF ps sec f lo (worstF ps lo hi).2 else findF ps sec f ((worstF ps lo hi).2 + 1) hi) else []
def findG (ps : List Int) (sec lo hi : Int) : List Int := findF ps sec (hi - lo).toNat lo hi
theorem findF_fuel {ps : List Int} (h : okOp ps = true) (sec : Int) : ∀ (f g : Nat) (lo hi : Int), (hi - lo).toNat ≤ f → (hi - lo).toNat ≤ g → 0 ≤ lo → hi ≤ ps.length → findF ps sec f lo hi = findF ps sec g lo hi
  | 0, 0, _, _, _, _, _, _ => rfl
  | 0, g + 1, lo, hi, hf, hg, _, _ => by unfold findF; rw [if_neg (by omega)]
  | f + 1, 0, lo, hi, hf, hg, _, _ => by unfold findF; rw [if_neg (by omega)]
  | f + 1, g + 1, lo, hi, hf, hg, h0, h1 => by
    unfold findF
    by_cases hlt : lo < hi
    · rw [if_pos hlt, if_pos hlt]
      have k := (worstF_ok h h0 (by omega) h1).1 hlt
      split
      · rw [findF_fuel h sec f g lo _ (by omega) (by omega) h0 (by omega)]
      · rw [findF_fuel h sec f g _ hi (by omega) (by omega) (by omega) h1]
    · rw [if_neg hlt, if_neg hlt]
theorem findG_end {ps : List Int} {sec lo hi : Int} (h : ¬ lo < hi) : findG ps sec lo hi = [] := by
  unfold findG; rw [show (hi - lo).toNat = 0 by omega]; rfl
theorem findG_step {ps : List Int} (h : okOp ps = true) {sec lo hi : Int} (h0 : 0 ≤ lo) (h1 : hi ≤ ps.length) (hlt : lo < hi) : findG ps sec lo hi = (worstF ps lo hi).2 :: (if sec ≤ (worstF ps lo hi).2 then findG ps sec lo (worstF ps lo hi).2 else findG ps sec ((worstF ps lo hi).2 + 1) hi) := by
  have k := (worstF_ok h h0 (by omega) h1).1 hlt
  have e : (hi - lo).toNat = ((hi - lo).toNat - 1) + 1 := by omega
  have e1 : findG ps sec lo hi = findF ps sec ((hi - lo).toNat - 1 + 1) lo hi := by unfold findG; rw [← e]
  rw [e1, findF, if_pos hlt]
  split
  · rw [findF_fuel h sec _ ((worstF ps lo hi).2 - lo).toNat lo _ (by omega) (by omega) h0 (by omega)]; rfl
  · rw [findF_fuel h sec _ (hi - ((worstF ps lo hi).2 + 1)).toNat _ hi (by omega) (by omega) (by omega) h1]; rfl
theorem findF_length (ps : List Int) (sec : Int) : ∀ (f : Nat) (lo hi : Int), (findF ps sec f lo hi).length ≤ f
  | 0, _, _ => Nat.le_refl _
  | f + 1, lo, hi => by
    unfold findF
    split
    · have a1 := findF_length ps sec f lo (worstF ps lo hi).2
      have a2 := findF_length ps sec f ((worstF ps lo hi).2 + 1) hi
      rw [List.length_cons]
      split <;> omega
    · exact Nat.zero_le _
def sumAt (ps : List Int) : List Int → Int
  | [] => 0
  | k :: r => at0 ps k + sumAt ps r
/-- The openings, their price and the code. -/
def seaC (ps : List Int) (sec : Int) : List Int × Int × Int :=
  if okOp ps = false then ([], 0, 1) else if inR sec 0 ps.length = false then ([], 0, 2) else (findG ps sec 0 ps.length, sumAt ps (findG ps sec 0 ps.length), 0)
end Go.Proofs.YtjalgpioklcbfaaGreatDoor
namespace Go.Proofs.YtjalgpioklcbfaaGreatDoor
open Go.RowKit

/-- An item of a queue. -/
structure It where
  arr : Int
  tick : Int
  cls : Int
def okIt (x : It) : Bool := inR x.arr 0 10000 && (inR x.tick 1 1000 && inR x.cls 0 9)
def okQ (l : List It) : Bool := decide (l.length ≤ 12) && l.all okIt
def itD : It := ⟨0, 0, 0⟩
def itAt (l : List It) (i : Int) : It := l.getD i.toNat itD
def better (a b : It) : Bool := decide (a.cls < b.cls) || (a.cls == b.cls && decide (a.arr < b.arr))
def hasI (l : List Int) (i : Int) : Bool := l.any fun x => x == i
/-- The best item that has arrived, from the i-th one on. -/
def pickG (l : List It) (order : List Int) (tick : Int) : List It → Nat → Int → Int
  | [], _, b => b
  | x :: r, i, b => pickG l order tick r (i + 1) (if hasI order i = true then b else if tick < x.arr then b else if b < 0 ∨ better x (itAt l b) = true then (i : Int) else b)
def nextG (order : List Int) (tick : Int) : List It → Nat → Int → Int
  | [], _, n => n
  | x :: r, i, n => nextG order tick r (i + 1) (if hasI order i = true then n else if tick < x.arr then (if n < 0 ∨ x.arr < n then x.arr else n) else n)
inductive Sv (l : List It) : List Int → Int → List Int → Prop
  | done {o : List Int} {t : Int} : ¬ o.length < l.length → Sv l o t o
  | idle {o : List Int} {t : Int} {R : List Int} : o.length < l.length → pickG l o t l 0 (-1) < 0 → Sv l o (nextG o t l 0 (-1)) R → Sv l o t R
  | step {o : List Int} {t : Int} {R : List Int} : o.length < l.length → ¬ pickG l o t l 0 (-1) < 0 → Sv l (o ++ [pickG l o t l 0 (-1)]) (t + (itAt l (pickG l o t l 0 (-1))).tick) R → Sv l o t R
theorem Sv.at_end {l : List It} {o R : List Int} {t : Int} (h : Sv l o t R) (hn : ¬ o.length < l.length) : R = o := by
  cases h with
  | done _ => rfl
  | idle h _ _ => exact absurd h hn
  | step h _ _ => exact absurd h hn
theorem Sv.to_idle {l : List It} {o R : List Int} {t : Int} (h : Sv l o t R) (hn : o.length < l.length) (hp : pickG l o t l 0 (-1) < 0) : Sv l o (nextG o t l 0 (-1)) R := by
  cases h with
  | done h => exact absurd hn h
  | idle _ _ h => exact h
  | step _ h _ => exact absurd hp h
theorem Sv.to_step {l : List It} {o R : List Int} {t : Int} (h : Sv l o t R) (hn : o.length < l.length) (hp : ¬ pickG l o t l 0 (-1) < 0) : Sv l (o ++ [pickG l o t l 0 (-1)]) (t + (itAt l (pickG l o t l 0 (-1))).tick) R := by
  cases h with
  | done h => exact absurd hn h
  | idle _ h _ => exact absurd h hp
  | step _ _ h => exact h
/-- How many are left. -/
def nLeft (o : List Int) : Nat → Nat
  | 0 => 0
  | n + 1 => nLeft o n + (if hasI o n = true then 0 else 1)
theorem hasI_snoc (o : List Int) (b i : Int) : hasI (o ++ [b]) i = (hasI o i || b == i) := by simp [hasI]
theorem nLeft_snoc {o : List Int} {b : Nat} (hb : hasI o b = false) : ∀ n, nLeft (o ++ [(b : Int)]) n + (if b < n then 1 else 0) = nLeft o n
  | 0 => by simp [nLeft]
  | n + 1 => by
    have := nLeft_snoc hb n
    unfold nLeft
    rw [hasI_snoc]
    by_cases e : b = n
    · subst e
      rw [hb]
      simp only [beq_self_eq_true, Bool.or_true, if_true, Bool.false_eq_true, if_false]
      rw [if_neg (Nat.lt_irrefl _)] at this
      rw [if_pos (Nat.lt_succ_self _)]; omega
    · have e2 : ((b : Int) == (n : Int)) = false := by rw [beq_eq_false_iff_ne]; omega
      rw [e2, Bool.or_false]
      have : (if b < n + 1 then 1 else 0) = (if b < n then 1 else 0) := by
        by_cases h : b < n
        · rw [if_pos h, if_pos (by omega)]
        · rw [if_neg h, if_neg (by omega)]
      omega
theorem nLeft_pos {o : List Int} : ∀ n, 0 < nLeft o n → ∃ i : Nat, i < n ∧ hasI o i = false
  | n + 1, h => by
    unfold nLeft at h
    rcases e : hasI o n with _ | _
    · exact ⟨n, by omega, e⟩
    · rw [e, if_pos rfl] at h
      obtain ⟨i, hi, k⟩ := nLeft_pos n (by omega)
      exact ⟨i, by omega, k⟩
/-- What the pick comes to: one that is left and has arrived; none only if none has. -/
theorem pickG_ok (l : List It) (o : List Int) (t : Int) : ∀ (r : List It) (i : Nat) (b : Int), l.drop i = r → (b = -1 ∨ (∃ k : Nat, b = k ∧ k < l.length ∧ hasI o k = false ∧ (itAt l k).arr ≤ t)) →
    (pickG l o t r i b = -1 ∨ (∃ k : Nat, pickG l o t r i b = k ∧ k < l.length ∧ hasI o k = false ∧ (itAt l k).arr ≤ t)) ∧ (pickG l o t r i b < 0 → b < 0 ∧ ∀ j : Nat, i ≤ j → j < l.length → hasI o j = false → t < (itAt l j).arr)
  | [], i, b, hd, hb => by
    refine ⟨hb, fun h => ⟨h, fun j h1 h2 => ?_⟩⟩
    have := List.drop_eq_nil_iff.1 hd
    omega
  | x :: r, i, b, hd, hb => by
    have hil : i < l.length := by
      rcases Nat.lt_or_ge i l.length with h | h
      · exact h
      · rw [List.drop_eq_nil_of_le h] at hd; cases hd
    have hx : itAt l i = x := by
      have := congrArg (fun q => q[0]?) hd
      simp only [List.getElem?_drop, Nat.add_zero, List.getElem?_cons_zero] at this
      unfold itAt
      rw [List.getD_eq_getElem?_getD, Int.toNat_natCast, this]; rfl
    have hd' : l.drop (i + 1) = r := by
      have := congrArg List.tail hd
      rwa [List.tail_drop, List.tail_cons] at this
    unfold pickG
    rcases e : hasI o i with _ | _
    · rw [if_neg (by decide)]
      by_cases ht : t < x.arr
      · rw [if_pos ht]
        obtain ⟨k1, k2⟩ := pickG_ok l o t r (i + 1) b hd' hb
        refine ⟨k1, fun h => ⟨(k2 h).1, fun j h1 h2 h3 => ?_⟩⟩
        by_cases ej : j = i
        · subst ej; rw [hx]; exact ht
        · exact (k2 h).2 j (by omega) h2 h3
      · rw [if_neg ht]
        by_cases hc : b < 0 ∨ better x (itAt l b) = true
        · rw [if_pos hc]
          obtain ⟨k1, k2⟩ := pickG_ok l o t r (i + 1) i hd' (.inr ⟨i, rfl, hil, e, by rw [hx]; omega⟩)
          exact ⟨k1, fun h => by have := (k2 h).1; omega⟩
        · rw [if_neg hc]
          obtain ⟨k1, k2⟩ := pickG_ok l o t r (i + 1) b hd' hb
          exact ⟨k1, fun h => absurd (.inl (k2 h).1) hc⟩
    · rw [if_pos rfl]
      obtain ⟨k1, k2⟩ := pickG_ok l o t r (i + 1) b hd' hb
      refine ⟨k1, fun h => ⟨(k2 h).1, fun j h1 h2 h3 => ?_⟩⟩
      by_cases ej : j = i
      · subst ej; rw [e] at h3; cases h3
      · exact (k2 h).2 j (by omega) h2 h3
theorem nextG_ok (l : List It) (o : List Int) (t : Int) (hl : ∀ x ∈ l, 0 ≤ x.arr ∧ x.arr ≤ 10000) : ∀ (r : List It) (i : Nat) (n : Int), l.drop i = r → (n = -1 ∨ (t < n ∧ 0 ≤ n ∧ n ≤ 10000)) →
    (nextG o t r i n = -1 ∨ (t < nextG o t r i n ∧ 0 ≤ nextG o t r i n ∧ nextG o t r i n ≤ 10000)) ∧ (nextG o t r i n < 0 → n < 0 ∧ ∀ j : Nat, i ≤ j → j < l.length → hasI o j = false → ¬ t < (itAt l j).arr)
  | [], i, b, hd, hb => by
    refine ⟨hb, fun h => ⟨h, fun j h1 h2 => ?_⟩⟩
    have := List.drop_eq_nil_iff.1 hd
    omega
  | x :: r, i, n, hd, hb => by
    have hil : i < l.length := by
      rcases Nat.lt_or_ge i l.length with h | h
      · exact h
      · rw [List.drop_eq_nil_of_le h] at hd; cases hd
    have hx' : l[i]? = some x := by
      have := congrArg (fun q => q[0]?) hd
      simpa only [List.getElem?_drop, Nat.add_zero, List.getElem?_cons_zero] using this
    have hx : itAt l i = x := by
      unfold itAt
      rw [List.getD_eq_getElem?_getD, Int.toNat_natCast, hx']; rfl
    have hm := hl x (List.mem_of_getElem? hx')
    have hd' : l.drop (i + 1) = r := by
      have := congrArg List.tail hd
      rwa [List.tail_drop, List.tail_cons] at this
    unfold nextG
    rcases e : hasI o i with _ | _
    · rw [if_neg (by decide)]
      by_cases ht : t < x.arr
      · rw [if_pos ht]
        by_cases hc : n < 0 ∨ x.arr < n
        · rw [if_pos hc]
          obtain ⟨k1, k2⟩ := nextG_ok l o t hl r (i + 1) x.arr hd' (.inr ⟨ht, hm.1, hm.2⟩)
          exact ⟨k1, fun h => by have := (k2 h).1; omega⟩
        · rw [if_neg hc]
          obtain ⟨k1, k2⟩ := nextG_ok l o t hl r (i + 1) n hd' hb
          exact ⟨k1, fun h => absurd (.inl (k2 h).1) hc⟩
      · rw [if_neg ht]
        obtain ⟨k1, k2⟩ := nextG_ok l o t hl r (i + 1) n hd' hb
        refine ⟨k1, fun h => ⟨(k2 h).1, fun j h1 h2 h3 => ?_⟩⟩
        by_cases ej : j = i
        · subst ej; rw [hx]; exact ht
        · exact (k2 h).2 j (by omega) h2 h3
    · rw [if_pos rfl]
      obtain ⟨k1, k2⟩ := nextG_ok l o t hl r (i + 1) n hd' hb
      refine ⟨k1, fun h => ⟨(k2 h).1, fun j h1 h2 h3 => ?_⟩⟩
      by_cases ej : j = i
      · subst ej; rw [e] at h3; cases h3
      · exact (k2 h).2 j (by omega) h2 h3
/-- What holds on the way. -/
structure Qs (l : List It) (o : List Int) (t : Int) : Prop where
  left : o.length + nLeft o l.length = l.length
  low : 0 ≤ t
  high : t ≤ 10000 + 1000 * o.length
theorem okQ_all {l : List It} (h : okQ l = true) : l.length ≤ 12 ∧ (∀ x ∈ l, 0 ≤ x.arr ∧ x.arr ≤ 10000) ∧ ∀ x ∈ l, 1 ≤ x.tick ∧ x.tick ≤ 1000 ∧ 0 ≤ x.cls ∧ x.cls ≤ 9 := by
  unfold okQ at h
  simp only [Bool.and_eq_true, decide_eq_true_eq, List.all_eq_true] at h
  refine ⟨h.1, fun x hx => ?_, fun x hx => ?_⟩
  · have := h.2 x hx
    unfold okIt at this
    simp only [Bool.and_eq_true] at this
    exact inR_true.1 this.1
  · have := h.2 x hx
    unfold okIt at this
    simp only [Bool.and_eq_true] at this
    have h1 := inR_true.1 this.2.1
    have h2 := inR_true.1 this.2.2
    exact ⟨h1.1, h1.2, h2.1, h2.2⟩
theorem itAt_mem {l : List It} {k : Nat} (h : k < l.length) : itAt l k ∈ l := by
  unfold itAt
  rw [List.getD_eq_getElem?_getD, Int.toNat_natCast, List.getElem?_eq_getElem h]
  exact List.getElem_mem h
theorem Qs.idle {l : List It} {o : List Int} {t : Int} (hq : okQ l = true) (h : Qs l o t) (hn : o.length < l.length) (hp : pickG l o t l 0 (-1) < 0) :
    Qs l o (nextG o t l 0 (-1)) ∧ t < nextG o t l 0 (-1) ∧ (∀ j : Nat, 0 ≤ j → j < l.length → hasI o j = false → t < (itAt l j).arr) := by
  obtain ⟨q1, q2, q3⟩ := okQ_all hq
  obtain ⟨-, k⟩ := pickG_ok l o t l 0 (-1) rfl (.inl rfl)
  have k := (k hp).2
  obtain ⟨n1, n2⟩ := nextG_ok l o t q2 l 0 (-1) rfl (.inl rfl)
  have hpos : ¬ nextG o t l 0 (-1) < 0 := by
    intro hneg
    obtain ⟨i, hi, he⟩ := nLeft_pos (o := o) l.length (by have := h.left; omega)
    exact (n2 hneg).2 i (Nat.zero_le _) hi he (k i (Nat.zero_le _) hi he)
  rcases n1 with n1 | n1
  · omega
  · exact ⟨⟨h.left, n1.2.1, by omega⟩, n1.1, k⟩
theorem Qs.step {l : List It} {o : List Int} {t : Int} (hq : okQ l = true) (h : Qs l o t) (hp : ¬ pickG l o t l 0 (-1) < 0) :
    ∃ k : Nat, pickG l o t l 0 (-1) = k ∧ k < l.length ∧ Qs l (o ++ [pickG l o t l 0 (-1)]) (t + (itAt l (pickG l o t l 0 (-1))).tick) ∧ 1 ≤ (itAt l (pickG l o t l 0 (-1))).tick := by
  obtain ⟨q1, q2, q3⟩ := okQ_all hq
  obtain ⟨k, -⟩ := pickG_ok l o t l 0 (-1) rfl (.inl rfl)
  rcases k with k | ⟨k, k1, k2, k3, k4⟩
  · omega
  · rw [k1]
    have := nLeft_snoc k3 l.length
    rw [if_pos k2] at this
    have hl := h.left
    have hb := q3 _ (itAt_mem k2)
    have h1 := h.low
    have h2 := h.high
    exact ⟨k, rfl, k2, ⟨by rw [List.length_append, List.length_singleton]; omega, by omega, by rw [List.length_append, List.length_singleton]; omega⟩, hb.1⟩
theorem sv_exists {l : List It} (hq : okQ l = true) (m : Nat) : ∀ (o : List Int) (t : Int), ((l.length : Int) - o.length) * 30000 + (30000 - t) ≤ m → Qs l o t → ∃ R, Sv l o t R := by
  induction m with
  | zero =>
    intro o t hm h
    have := h.high
    have := (okQ_all hq).1
    have := h.left
    have := h.low
    have : o.length = l.length := by omega
    exact ⟨o, .done (by omega)⟩
  | succ m ih =>
    intro o t hm h
    by_cases hn : o.length < l.length
    · by_cases hp : pickG l o t l 0 (-1) < 0
      · obtain ⟨h1, h2, -⟩ := h.idle hq hn hp
        have := h1.high
        have := h.low
        have := (okQ_all hq).1
        obtain ⟨R, hR⟩ := ih o _ (by omega) h1
        exact ⟨R, .idle hn hp hR⟩
      · obtain ⟨k, h1, h2, h3, h4⟩ := h.step hq hp
        have := (okQ_all hq).1
        have hlen : (o ++ [pickG l o t l 0 (-1)]).length = o.length + 1 := by simp
        obtain ⟨R, hR⟩ := ih _ _ (by rw [hlen]; omega) h3
        exact ⟨R, .step hn hp hR⟩
    · exact ⟨o, .done hn⟩
theorem qs_start (l : List It) : Qs l [] 0 := ⟨by
    have : ∀ n, nLeft [] n = n := by
      intro n
      induction n with
      | zero => rfl
      | succ n ih => unfold nLeft; rw [ih]; rfl
    rw [this, List.length_nil]; omega, Int.le_refl _, by simp⟩
theorem Sv.uniq {l : List It} {o R : List Int} {t : Int} (h : Sv l o t R) : ∀ {R'}, Sv l o t R' → R = R' := by
  induction h with
  | done h => intro R' k; exact (k.at_end h).symm
  | idle h1 h2 _ ih => intro R' k; exact ih (k.to_idle h1 h2)
  | step h1 h2 _ ih => intro R' k; exact ih (k.to_step h1 h2)
noncomputable def svR (l : List It) : List Int := open Classical in if h : ∃ R, Sv l [] 0 R then Classical.choose h else []
theorem svR_is {l : List It} (hq : okQ l = true) : Sv l [] 0 (svR l) := by
  unfold svR
  have h := sv_exists hq ((l.length + 1) * 30000) [] 0 (by rw [List.length_nil]; omega) (qs_start l)
  rw [dif_pos h]
  exact Classical.choose_spec h
/-- The order in which items are sent, and the code. -/
noncomputable def srvC (l : List It) : List Int × Int := if okQ l = false then ([], 1) else (svR l, 0)
end Go.Proofs.YtjalgpioklcbfaaGreatDoor
namespace Go.Proofs.YtjalgpioklcbfaaGreatDoor
open Go.RowKit

theorem outside1_any (x lo hi : Int) (g1 g2 : Nat) (w : World) (k1 : w.cell? ⟨g1, 0, none⟩ = some (.int .i64 lo)) (k2 : w.cell? ⟨g2, 0, none⟩ = some (.int .i64 hi)) :
    Calls Tryz.prog 205 #[.int .i64 x, .pointer (some ⟨g1, 0, none⟩), .pointer (some ⟨g2, 0, none⟩)] w fun e w' => e = .returned (.bool (!inR x lo hi)) ∧ w = w' := by
  go_enter Tryz.func205, Tryz.ntmps205
  go_wp2_with fail
  refine (within_any _ _ _ _).mono ?_
  rintro e w1 ⟨rfl, rfl⟩
  go_wp2
  go_ret
  exact ⟨rfl, rfl⟩
theorem indexFuncI_any (A : Option Addr) (n c B : Nat) (l : List Int) (lo hi : Int) (g1 g2 : Nat) (w : World) (h : Reads w B 1 A n (ints l)) (hn : n ≤ 1048576) (k1 : w.cell? ⟨g1, 0, none⟩ = some (.int .i64 lo)) (k2 : w.cell? ⟨g2, 0, none⟩ = some (.int .i64 hi)) :
    Calls Tryz.prog 258 #[.slice A n c, .func (.func 205) #[] #[.pointer (some ⟨g1, 0, none⟩), .pointer (some ⟨g2, 0, none⟩)]] w fun e w' => e = .returned (.int .i64 (idxI (fun x => !inR x lo hi) l)) ∧ w = w' := by
  have hl := Lib.hid (ints_len h)
  go_enter Tryz.func258, Tryz.ntmps258
  go_wp2
  go_loop [8] (fun i => ∃ k : Nat, k ≤ n ∧ i = .int .i64 k ∧ AllTo (fun x => inR x lo hi) l k) (fun i => n - (RowKit.intOf i).toNat)
  case atStart => exact ⟨0, Nat.zero_le _, rfl, AllTo.zero _ _⟩
  case round =>
    obtain ⟨k, hk, rfl, hall⟩ := hrel
    have HA := Lib.hid hall
    clear hall
    by_cases hlt : k < n
    · obtain ⟨x, b, off, he, rfl, hb, c0⟩ := int_at h hlt
      have HE := Lib.hid he
      clear he h
      go_wp2_with fail
      refine (outside1_any x lo hi g1 g2 w k1 k2).mono ?_
      rintro e w1 ⟨rfl, rfl⟩
      rcases ho : inR x lo hi with _ | _
      · have HO := Lib.hid (show idxI (fun x => !inR x lo hi) l = k from idxI_found HE.out (by simp [ho]) (HA.out.imp fun x hx => by simp [hx]))
        go_wp2
        go_ret
        exact ⟨ret_int HO.out.symm, rfl⟩
      · have HO := Lib.hid ho
        go_wp2
        go_round
        case rel => exact ⟨k + 1, by omega, by go_num, HA.out.step (p := fun x => inR x lo hi) HE.out HO.out⟩
        case measure => simp [RowKit.intOf]; omega
    · obtain rfl : k = n := by omega
      have HO := Lib.hid (show idxI (fun x => !inR x lo hi) l = -1 from idxI_none (HA.out.imp fun x hx => by simp [hx]) hl.out)
      go_wp2
      go_ret
      exact ⟨ret_int HO.out.symm, rfl⟩
theorem containsFuncI_any (A : Option Addr) (n c B : Nat) (l : List Int) (lo hi : Int) (g1 g2 : Nat) (w : World) (h : Reads w B 1 A n (ints l)) (hn : n ≤ 1048576) (k1 : w.cell? ⟨g1, 0, none⟩ = some (.int .i64 lo)) (k2 : w.cell? ⟨g2, 0, none⟩ = some (.int .i64 hi)) :
    Calls Tryz.prog 204 #[.slice A n c, .func (.func 205) #[] #[.pointer (some ⟨g1, 0, none⟩), .pointer (some ⟨g2, 0, none⟩)]] w fun e w' => e = .returned (.bool (!l.all fun x => inR x lo hi)) ∧ w = w' := by
  have HO := Lib.hid (show decide (0 ≤ idxI (fun x => !inR x lo hi) l) = !l.all fun x => inR x lo hi from by rw [idxI_nonneg]; simp [List.any_eq_not_all_not])
  go_enter Tryz.func204, Tryz.ntmps204
  go_wp2_with fail
  refine (indexFuncI_any A n c B l lo hi g1 g2 w h hn k1 k2).mono ?_
  rintro e w1 ⟨rfl, rfl⟩
  go_wp2
  go_ret
  exact ⟨ret_bool HO.out, rfl⟩
end Go.Proofs.YtjalgpioklcbfaaGreatDoor
namespace Go.Proofs.YtjalgpioklcbfaaGreatDoor
open Go.RowKit Go.Lib

end Go.Proofs.YtjalgpioklcbfaaGreatDoor
namespace Go.Proofs.YtjalgpioklcbfaaGreatDoor
open Go.RowKit Go.Lib

def stepS (s : ByteArray) (r : LogR) : Option LogR := match splitS 10 (s.extract r.at_ s.size) with
  | l :: _ :: _ => stepF r l
  | _ => none
theorem stepS_miss {s : ByteArray} {r : LogR} (h : (10 : UInt8) ∉ (s.extract r.at_ s.size).data.toList) : stepS s r = none := by
  unfold stepS; rw [split_end h]
theorem stepS_hit {s : ByteArray} {r : LogR} {k : Nat} (hn : (10 : UInt8) ∉ (s.extract r.at_ k).data.toList) (hj : r.at_ ≤ k) (hk : k < s.size) (hc : s[k] = 10) : stepS s r = stepF r (s.extract r.at_ k) := by
  unfold stepS
  rw [split_step hn hj hk hc]
  rcases h : splitS 10 (s.extract (k + 1) s.size) with _ | ⟨m, t⟩
  · exact absurd h (splitS_ne _ _)
  · rfl
theorem stepS_go {s : ByteArray} {r : LogR} (hat : r.at_ ≤ s.size) : logGo (splitS 10 (s.extract r.at_ s.size)) r = match stepS s r with
    | none => r
    | some r' => logGo (splitS 10 (s.extract r'.at_ s.size)) r' := by
  rcases index_one 10 (s.extract r.at_ s.size).data.toList with ⟨_, hno⟩ | ⟨al, rl, he, hna, _⟩
  · rw [stepS_miss hno, logGo_miss hno]
  · have he' : (s.extract r.at_ s.size).data.toList = (asBytes al).data.toList ++ 10 :: rl := by rw [data_asBytes]; exact he
    have hn' : (10 : UInt8) ∉ (asBytes al).data.toList := by rw [data_asBytes]; exact hna
    have h1 := logGo_cut (r := r) he' hn'
    have h2 := rest_cut hat he'
    have h3 : stepS s r = stepF r (asBytes al) := by
      unfold stepS splitS
      rw [he, splitL_hit hna, List.map_cons]
      rcases h : List.map asBytes (splitL 10 rl) with _ | ⟨m, t⟩
      · exact absurd (by simpa using h) (splitL_ne _ _)
      · rfl
    rw [h1, h3]
    rcases h4 : stepF r (asBytes al) with _ | r'
    · rfl
    · have h5 : r'.at_ = r.at_ + (asBytes al).size + 1 := by
        unfold stepF at h4
        split at h4
        · cases h4
        · split at h4
          · injection h4 with h4; subst h4; rfl
          · cases h4
      simp only
      rw [h2.1, h5]
theorem stepS_some {s : ByteArray} {r r' : LogR} (hok : r.ok) (hat : r.at_ ≤ s.size) (h : stepS s r = some r') : r'.ok ∧ r'.at_ ≤ s.size ∧ r.at_ < r'.at_ := by
  rcases index_one 10 (s.extract r.at_ s.size).data.toList with ⟨_, hno⟩ | ⟨al, rl, he, hna, _⟩
  · rw [stepS_miss hno] at h; cases h
  · have he' : (s.extract r.at_ s.size).data.toList = (asBytes al).data.toList ++ 10 :: rl := by rw [data_asBytes]; exact he
    have h2 := rest_cut hat he'
    have h3 : stepS s r = stepF r (asBytes al) := by
      unfold stepS splitS
      rw [he, splitL_hit hna, List.map_cons]
      rcases h : List.map asBytes (splitL 10 rl) with _ | ⟨m, t⟩
      · exact absurd (by simpa using h) (splitL_ne _ _)
      · rfl
    rw [h3] at h
    obtain ⟨k1, k2, _⟩ := LogR.ok_step hok h
    exact ⟨k1, by omega, by omega⟩
theorem stepF_four_day {r : LogR} {line a b c d : ByteArray} (h : splitS 32 line = [a, b, c, d]) (hd : ¬ (dayR r.list ≤ numS a.data.toList)) : stepF r line = none := by
  rcases hl : lineF line with _ | ⟨e, st⟩
  · exact stepF_none hl
  · have he : e.day = numS a.data.toList := by
      rw [lineF_four h] at hl
      unfold wordsF at hl
      split at hl
      · injection hl with hl; injection hl with hl _; subst hl; rfl
      · cases hl
    exact stepF_day hl (by rw [he]; exact hd)
theorem stepF_four_text {r : LogR} {line a b c d : ByteArray} (h : splitS 32 line = [a, b, c, d]) (h1 : isDec a.data.toList = true) (h2 : isDec c.data.toList = true)
    (ht : lineB (stampW r.stamp (wordsB ⟨numS a.data.toList, b, numS c.data.toList⟩)) ⟨numS a.data.toList, b, numS c.data.toList⟩ ≠ line ++ ⟨#[10]⟩) : stepF r line = none := by
  have hb := stampW_bd r.stamp (wordsB ⟨numS a.data.toList, b, numS c.data.toList⟩)
  have hx := fun q => ht ((line_text h h1 h2 hb.1 hb.2).2 q)
  rcases hl : lineF line with _ | ⟨e, st⟩
  · exact stepF_none hl
  · rw [lineF_four h] at hl
    unfold wordsF at hl
    split at hl
    · rename_i hw
      injection hl with hl; injection hl with hl hl'
      simp only [Bool.and_eq_true] at hw
      have hl2 : lineF line = some (e, st) := by rw [lineF_four h, wordsF_yes hw.1.1.1 hw.1.1.2 hw.1.2 hw.2, hl, hl']
      refine stepF_stamp hl2 (fun hs => hx ⟨hw.1.2, ?_⟩)
      rw [hl', ← hs, hl]
    · cases hl
theorem stepF_four_yes {r : LogR} {line a b c d : ByteArray} (h : splitS 32 line = [a, b, c, d]) (h1 : isDec a.data.toList = true) (h2 : isDec c.data.toList = true) (h4 : okEn ⟨numS a.data.toList, b, numS c.data.toList⟩ = true) (hd : dayR r.list ≤ numS a.data.toList)
    (ht : lineB (stampW r.stamp (wordsB ⟨numS a.data.toList, b, numS c.data.toList⟩)) ⟨numS a.data.toList, b, numS c.data.toList⟩ = line ++ ⟨#[10]⟩) :
    stepF r line = some ⟨r.list ++ [⟨numS a.data.toList, b, numS c.data.toList⟩], stampW r.stamp (wordsB ⟨numS a.data.toList, b, numS c.data.toList⟩), r.at_ + line.size + 1⟩ := by
  have hb := stampW_bd r.stamp (wordsB ⟨numS a.data.toList, b, numS c.data.toList⟩)
  obtain ⟨h5, h6⟩ := (line_text h h1 h2 hb.1 hb.2).1 ht
  have hl : lineF line = some (⟨numS a.data.toList, b, numS c.data.toList⟩, numS d.data.toList) := by rw [lineF_four h, wordsF_yes h1 h2 h5 h4]
  have := stepF_yes (r := r) hl hd h6.symm
  rw [this, h6]
theorem stepF_four_no {r : LogR} {line a b c d : ByteArray} (h : splitS 32 line = [a, b, c, d]) (hw : wordsF a b c d = none) : stepF r line = none := stepF_none (by rw [lineF_four h, hw])
theorem stepF_other {r : LogR} {line : ByteArray} (h : (splitS 32 line).length ≠ 4) : stepF r line = none := stepF_none (lineF_other h)
theorem extract_next {s : ByteArray} {j k : Nat} (hj : j ≤ k) (hk : k < s.size) (hc : s[k] = 10) : s.extract j (k + 1) = s.extract j k ++ ⟨#[10]⟩ := by
  apply bytes_ext
  have hl := data_len s
  rw [data_app, piece_data, piece_data, show k + 1 - j = (k - j) + 1 by omega, List.take_succ_eq_append_getElem (by rw [List.length_drop]; omega)]
  congr 1
  have := byte_at s k hk
  rw [List.getElem?_eq_getElem (by omega)] at this
  injection this with this
  rw [List.getElem_drop]
  have e : j + (k - j) = k := by omega
  simp only [e, this, hc]
end Go.Proofs.YtjalgpioklcbfaaGreatDoor
namespace Go.Proofs.YtjalgpioklcbfaaGreatDoor
open Go.RowKit

theorem outside_any (A : Option Addr) (n c B : Nat) (l : List Int) (lo hi : Int) (w : World) (h : Reads w B 1 A n (ints l)) (hB : B ≤ w.heap.size) (hn : n ≤ 1048576) :
    Calls Tryz.prog 147 #[.slice A n c, .int .i64 lo, .int .i64 hi] w fun e w' => e = .returned (.bool (!l.all fun x => inR x lo hi)) ∧ Below w.heap.size w w' := by
  obtain ⟨W, hW, hz, k0, k1, hb⟩ := two_al w #[.int .i64 lo] #[.int .i64 hi] 2 2
  have HW := Lib.hid hW
  have HB := Lib.hid hb
  have c1 := k0.cellAt 0 (by simp)
  have c2 := k1.cellAt 0 (by simp)
  simp only [List.getElem_toArray, List.getElem_cons_zero] at c1 c2
  clear hW hz k0 k1 hb
  go_enter Tryz.func147, Tryz.ntmps147
  go_wp2_with fail
  rw [← HW.out]
  refine (containsFuncI_any A n c B l lo hi _ _ W (h.on hB HB.out) hn c1 c2).mono ?_
  rintro e w1 ⟨rfl, rfl⟩
  go_wp2
  go_ret
  exact ⟨rfl, HB.out⟩

theorem validTimes_any (A : Option Addr) (n c B : Nat) (l : List Int) (w : World) (h : Reads w B 1 A n (ints l)) (hB : B ≤ w.heap.size) (hn : n ≤ 1048576) :
    Calls Tryz.prog 83 #[.slice A n c] w fun e w' => e = .returned (.bool (okTimes l)) ∧ Below w.heap.size w w' := by
  have HL := Lib.hid (ints_len h)
  go_enter Tryz.func83, Tryz.ntmps83
  go_wp2_with fail
  refine (within_any _ _ _ _).mono ?_
  rintro e w1 ⟨rfl, rfl⟩
  rcases e1 : inR n 1 24 with _ | _
  · have HO := Lib.hid (show (okTimes l) = false by simp only [okTimes, okWay, HL.out, e1, Bool.false_and])
    go_wp2
    go_ret
    exact ⟨ret_bool HO.out.symm, Below.refl _ _⟩
  have HO := Lib.hid (show (okTimes l) = l.all (fun x => inR x 1 (1000)) by simp only [okTimes, okWay, HL.out, e1, Bool.true_and])
  go_wp2_with fail
  refine (outside_any A n c B l 1 (1000) w h hB hn).mono ?_
  rintro e w1 ⟨rfl, b1⟩
  go_wp2
  go_ret
  exact ⟨ret_bool (by rw [HO.out]; try simp), b1⟩

theorem isRunWay_any (P : Option Addr) (m d : Nat) (ts : List Int) (hm : m ≤ 1048576) (hts : ts.length = m) (A : Option Addr) (n c B : Nat) (l : List Int) (w : World) (h : Reads w B 1 A n (ints l)) (hB : B ≤ w.heap.size) (hn : n ≤ 1048576) :
    Calls Tryz.prog 135 #[.slice P m d, .slice A n c] w fun e w' => e = .returned (.bool (okWay ts l)) ∧ Below w.heap.size w w' := by
  subst hts
  have HL := Lib.hid (ints_len h)
  go_enter Tryz.func135, Tryz.ntmps135
  go_wp2_with fail
  refine (within_any _ _ _ _).mono ?_
  rintro e w1 ⟨rfl, rfl⟩
  rcases e1 : inR n 1 12 with _ | _
  · have HO := Lib.hid (show (okWay ts l) = false by simp only [okTimes, okWay, HL.out, e1, Bool.false_and])
    go_wp2
    go_ret
    exact ⟨ret_bool HO.out.symm, Below.refl _ _⟩
  have HO := Lib.hid (show (okWay ts l) = l.all (fun x => inR x 0 ((ts.length : Int) - 1)) by simp only [okTimes, okWay, HL.out, e1, Bool.true_and])
  go_wp2_with fail
  refine (outside_any A n c B l 0 ((ts.length : Int) - 1) w h hB hn).mono ?_
  rintro e w1 ⟨rfl, b1⟩
  go_wp2
  go_ret
  exact ⟨ret_bool (by rw [HO.out]; try simp), b1⟩
end Go.Proofs.YtjalgpioklcbfaaGreatDoor
namespace Go.Proofs.YtjalgpioklcbfaaGreatDoor
open Go.RowKit

/-- The closure of ValidRuns: the times lie in a box. -/
theorem validRuns1_any (P : Option Addr) (m d : Nat) (ts : List Int) (A : Option Addr) (n c B g : Nat) (r : Rn) (w : World) (h : Reads w B 1 A n (ints r.way)) (hB : B ≤ w.heap.size) (hn : n ≤ 1048576) (hm : m ≤ 1048576) (hts : ts.length = m) (k0 : w.cell? ⟨g, 0, none⟩ = some (.slice P m d)) :
    Calls Tryz.prog 134 #[.agg #[.slice A n c, .int .i64 r.st], .pointer (some ⟨g, 0, none⟩)] w fun e w' => e = .returned (.bool (!okRun ts r)) ∧ Below w.heap.size w w' := by
  obtain ⟨W, hW, y0, hb⟩ : ∃ W, W = w.alloc (.cells #[.slice A n c, .int .i64 r.st] 123) ∧ Blk W w.heap.size 123 #[.slice A n c, .int .i64 r.st] ∧ Below w.heap.size w W := ⟨_, rfl, Blk.new _ _ _, (Below.refl _ _).alloc (Nat.le_refl _) _⟩
  have HW := Lib.hid hW
  have HB := Lib.hid hb
  replace k0 := cell_on hb k0
  have c0 := y0.cellAt 0 (by simp)
  have HY := Lib.hid y0
  simp only [List.getElem_toArray, List.getElem_cons_zero] at c0
  have HR := Lib.hid (h.on hB hb)
  clear hW hb y0 h
  go_enter Tryz.func134, Tryz.ntmps134
  go_upto_region 1 with fail
  rw [← HW.out]
  go_wp2_with fail
  refine (isRunWay_any P m d ts hm hts A n c B r.way W HR.out (Nat.le_trans hB HB.out.size) hn).mono ?_
  rintro e w1 ⟨rfl, b1⟩
  have HB1 := Lib.hid (bnext HB.out b1 (Nat.le_refl _))
  have c1 := (HY.out.on b1).cellAt 1 (by simp)
  simp only [List.getElem_toArray, List.getElem_cons_zero, List.getElem_cons_succ] at c1
  clear b1
  rcases e1 : okWay ts r.way with _ | _
  · have HO := Lib.hid (show (!okRun ts r) = true by simp [okRun, e1])
    go_wp2
    go_ret
    exact ⟨ret_bool HO.out.symm, HB1.out⟩
  have HO := Lib.hid (show (!okRun ts r) = !inR r.st 0 100000 by simp [okRun, e1])
  go_wp2_with fail
  refine (within_any _ _ _ _).mono ?_
  rintro e w2 ⟨rfl, rfl⟩
  go_wp2
  go_ret
  exact ⟨ret_bool HO.out.symm, HB1.out⟩
end Go.Proofs.YtjalgpioklcbfaaGreatDoor
