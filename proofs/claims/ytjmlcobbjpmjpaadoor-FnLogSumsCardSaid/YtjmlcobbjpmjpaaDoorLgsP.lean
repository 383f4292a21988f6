/- What the log laws say of sums and cuts: plain. -/
import Derived.Test.YtjmlcobbjpmjpaaDoorLogS
import Derived.Test.YtjmlcobbjpmjpaaDoorLogC
import Derived.Test.YtjmlcobbjpmjpaaDoorLogA
import Derived.Test.YtjmlcobbjpmjpaaDoorNames
import Derived.Test.YtjmlcobbjpmjpaaDoorLogM
import Derived.Test.YtjmlcobbjpmjpaaDoorEnDs
set_option linter.unusedVariables false
set_option linter.unusedSimpArgs false
namespace Go.Proofs.YtjmlcobbjpmjpaaDoor
open Go.RowKit Go.Lib

theorem isW_sym (x : En) (t : ByteArray) : isW x t = true ↔ x.what.toList = t.toList := by simp [isW]
theorem hasW_any (xs : List ByteArray) (x : En) : hasW xs x.what = xs.any (fun t => isW x t) := rfl
/-- How many names an entry bears. -/
def cntW (x : En) (ns : List ByteArray) : Nat := ns.countP (fun t => isW x t)
theorem cntW_app (x : En) (ns : List ByteArray) (t : ByteArray) : cntW x (ns ++ [t]) = cntW x ns + (if isW x t = true then 1 else 0) := by
  unfold cntW
  rw [List.countP_append]
  simp [List.countP_cons]
theorem cntW_none {x : En} {ns : List ByteArray} (h : hasW ns x.what = false) : cntW x ns = 0 := by
  unfold cntW
  rw [List.countP_eq_zero]
  intro t ht hw
  rw [hasW_any, List.any_eq_false] at h
  exact h t ht hw
theorem cntW_some {x : En} {ns : List ByteArray} (h : hasW ns x.what = true) : 1 ≤ cntW x ns := by
  unfold cntW
  rw [hasW_any, List.any_eq_true] at h
  exact List.countP_pos_iff.2 h
theorem cntW_le (l : List En) : ∀ (k : Nat) (x : En), cntW x (namesL l k) ≤ 1
  | 0, x => by simp [namesL, cntW]
  | k + 1, x => by
    have ih := cntW_le l k x
    rcases hy : l[k]? with _ | y
    · simp only [namesL, hy]; exact ih
    · rcases hw : hasW (namesL l k) y.what with _ | _
      · rw [namesL_new hy hw, cntW_app]
        split
        · rename_i h
          have e : ∀ t, isW x t = isW y t := fun t => by
            have := (isW_sym x y.what).1 h
            unfold isW; rw [this]
          have : cntW x (namesL l k) = cntW y (namesL l k) := by unfold cntW; simp only [e]
          rw [this, cntW_none hw]
          omega
        · omega
      · rw [namesL_has hy hw]; exact ih
theorem cntW_ge (l : List En) : ∀ (k i : Nat) (x : En), i < k → l[i]? = some x → 1 ≤ cntW x (namesL l k)
  | 0, i, x, h, _ => by omega
  | k + 1, i, x, h, hx => by
    rcases hy : l[k]? with _ | y
    · by_cases e : i = k
      · subst e; rw [hx] at hy; cases hy
      · simp only [namesL, hy]; exact cntW_ge l k i x (by omega) hx
    · rcases hw : hasW (namesL l k) y.what with _ | _
      · rw [namesL_new hy hw, cntW_app]
        by_cases e : i = k
        · subst e
          rw [hx] at hy; injection hy with hy; subst hy
          rw [if_pos (by simp [isW])]
          omega
        · have := cntW_ge l k i x (by omega) hx
          omega
      · rw [namesL_has hy hw]
        by_cases e : i = k
        · subst e
          rw [hx] at hy; injection hy with hy; subst hy
          exact cntW_some hw
        · exact cntW_ge l k i x (by omega) hx
theorem cntW_one {l : List En} {i : Nat} {x : En} (hx : l[i]? = some x) : cntW x (namesL l l.length) = 1 := by
  have h1 := cntW_le l l.length x
  have h2 := cntW_ge l l.length i x (List.getElem?_eq_some_iff.1 hx).1 hx
  omega
theorem names_from (l : List En) : ∀ (k : Nat) (t : ByteArray), t ∈ namesL l k → ∃ i x, i < k ∧ l[i]? = some x ∧ x.what = t
  | 0, t, h => by simp [namesL] at h
  | k + 1, t, h => by
    rcases hy : l[k]? with _ | y
    · simp only [namesL, hy] at h
      obtain ⟨i, x, h1, h2, h3⟩ := names_from l k t h
      exact ⟨i, x, by omega, h2, h3⟩
    · rcases hw : hasW (namesL l k) y.what with _ | _
      · rw [namesL_new hy hw] at h
        rcases List.mem_append.1 h with h | h
        · obtain ⟨i, x, h1, h2, h3⟩ := names_from l k t h
          exact ⟨i, x, by omega, h2, h3⟩
        · rw [List.mem_singleton] at h
          exact ⟨k, y, by omega, hy, h.symm⟩
      · rw [namesL_has hy hw] at h
        obtain ⟨i, x, h1, h2, h3⟩ := names_from l k t h
        exact ⟨i, x, by omega, h2, h3⟩
/-- Sums over the names. -/
def sumNL (l : List En) (j : Nat) (ns : List ByteArray) : Int := (ns.map fun t => sumTo l t 0 100000 j).sum
def cntNL (l : List En) (j : Nat) (ns : List ByteArray) : Nat := (ns.map fun t => (valsTo l t j).length).sum
theorem sumNL_step {l : List En} (hok : ∀ x ∈ l, okEn x = true) {j : Nat} {x : En} (hx : l[j]? = some x) : ∀ ns, sumNL l (j + 1) ns = sumNL l j ns + x.val * (cntW x ns : Nat) ∧ cntNL l (j + 1) ns = cntNL l j ns + cntW x ns
  | [] => by simp [sumNL, cntNL, cntW]
  | t :: ns => by
    obtain ⟨ih1, ih2⟩ := sumNL_step hok hx ns
    have hb := okEn_bd (hok x (List.mem_of_getElem? hx))
    have hin : inR x.day 0 100000 = true := inR_true.2 ⟨hb.1, hb.2.1⟩
    simp only [sumNL, cntNL, cntW, List.map_cons, List.sum_cons, List.countP_cons] at ih1 ih2 ⊢
    rw [ih1, ih2]
    rcases hw : isW x t with _ | _
    · have hd : isD x t 0 100000 = false := by simp [isD, hw]
      rw [sumTo_no hx hd, valsTo_no hx hw]
      simp
      omega
    · have hd : isD x t 0 100000 = true := by simp [isD, hw, hin]
      rw [sumTo_yes hx hd, valsTo_yes hx hw]
      simp only [if_true, List.length_append, List.length_singleton]
      rw [Int.natCast_add, Int.mul_add]
      constructor
      · generalize x.val * ((List.countP (fun t => isW x t) ns : Nat) : Int) = q
        simp
        omega
      · omega
theorem addTo_take (xs : List Int) : ∀ k, addTo xs k = (xs.take k).sum
  | 0 => by simp [addTo]
  | k + 1 => by
    rw [addTo, addTo_take xs k, List.take_add_one, List.sum_append]
    rcases h : xs[k]? with _ | z
    · simp [List.getD, h]
    · simp [List.getD, h]
theorem addTo_all (xs : List Int) : addTo xs xs.length = xs.sum := by rw [addTo_take, List.take_length]
theorem sumNL_all {l : List En} (hok : ∀ x ∈ l, okEn x = true) : ∀ j, j ≤ l.length → sumNL l j (namesL l l.length) = addTo (l.map (·.val)) j ∧ cntNL l j (namesL l l.length) = j
  | 0, _ => by
    constructor
    · unfold sumNL; simp only [sumTo, addTo]
      generalize namesL l l.length = ns
      induction ns with
      | nil => rfl
      | cons a ns ih => rw [List.map_cons, List.sum_cons, ih]; rfl
    · unfold cntNL; simp only [valsTo, List.length_nil]
      generalize namesL l l.length = ns
      induction ns with
      | nil => rfl
      | cons a ns ih => rw [List.map_cons, List.sum_cons, ih]
  | j + 1, hj => by
    obtain ⟨h1, h2⟩ := sumNL_all hok j (by omega)
    have hx : l[j]? = some (l[j]'(by omega)) := List.getElem?_eq_getElem (by omega)
    obtain ⟨s1, s2⟩ := sumNL_step hok hx (namesL l l.length)
    rw [cntW_one hx] at s1 s2
    refine ⟨?_, by omega⟩
    rw [s1, h1, addTo_step (x := (l[j]'(by omega)).val) (by simp [hx])]
    simp
theorem vals_sum {l : List En} (hok : ∀ x ∈ l, okEn x = true) (t : ByteArray) : ∀ k, (valsTo l t k).sum = sumTo l t 0 100000 k
  | 0 => by simp [valsTo, sumTo]
  | k + 1 => by
    have ih := vals_sum hok t k
    rcases hx : l[k]? with _ | x
    · simp only [valsTo, sumTo, hx]; exact ih
    · have hb := okEn_bd (hok x (List.mem_of_getElem? hx))
      have hin : inR x.day 0 100000 = true := inR_true.2 ⟨hb.1, hb.2.1⟩
      rcases hw : isW x t with _ | _
      · rw [valsTo_no hx hw, sumTo_no hx (by simp [isD, hw]), ih]
      · rw [valsTo_yes hx hw, sumTo_yes hx (by simp [isD, hw, hin]), List.sum_append, ih]; simp
theorem vals_bd {l : List En} (hok : ∀ x ∈ l, okEn x = true) (t : ByteArray) : ∀ k, ∀ v ∈ valsTo l t k, -1000000 ≤ v ∧ v ≤ 1000000
  | 0, v, h => by simp [valsTo] at h
  | k + 1, v, h => by
    rcases hx : l[k]? with _ | x
    · simp only [valsTo, hx] at h; exact vals_bd hok t k v h
    · have hb := okEn_bd (hok x (List.mem_of_getElem? hx))
      rcases hw : isW x t with _ | _
      · rw [valsTo_no hx hw] at h; exact vals_bd hok t k v h
      · rw [valsTo_yes hx hw] at h
        rcases List.mem_append.1 h with h | h
        · exact vals_bd hok t k v h
        · rw [List.mem_singleton] at h; subst h; exact ⟨hb.2.2.2.1, hb.2.2.2.2⟩
theorem vals_pos {l : List En} {t : ByteArray} {i : Nat} {x : En} (hx : l[i]? = some x) (hw : isW x t = true) : ∀ k, i < k → 1 ≤ (valsTo l t k).length
  | 0, h => by omega
  | k + 1, h => by
    by_cases e : i = k
    · subst e; rw [valsTo_yes hx hw]; simp
    · have ih := vals_pos hx hw k (by omega)
      rw [valsTo]
      split
      · exact ih
      · split
        · simp
        · exact ih

/-- A log of valid entries in order, few of them. -/
structure FewLog (l : List En) (s : ByteArray) : Prop where
  len : l.length ≤ 7
  ok : ∀ x ∈ l, okEn x = true
  log : logOfF l = (s, 0)
  eq : s = logTo l l.length
  size : s.size ≤ 560
  read : logR s = ⟨l, stampAt l l.length, s.size⟩
  code : codeF s = 0
  names : namesF s = namesL l l.length
theorem few_log {l : List En} (hl : l.length ≤ 7) (hok : ∀ x ∈ l, okEn x = true) (hd : daysUp l = true) : ∃ s, FewLog l s := by
  have hsz := logTo_size hok l.length
  have hr := logR_logTo hok hd
  have hall : l.all okEn = true := List.all_eq_true.2 hok
  have hc : codeF (logTo l l.length) = 0 := codeF_ok (by omega) (by rw [hr])
  refine ⟨logTo l l.length, hl, hok, logOfF_ok hall hd (by omega), rfl, by omega, hr, hc, ?_⟩
  rw [namesF_ok hc, hr]
/-- What a name that is told has. -/
theorem FewLog.name {l : List En} {s : ByteArray} (h : FewLog l s) {t : ByteArray} (ht : t ∈ namesL l l.length) :
    t.size ≤ 12 ∧ sumF s t 0 100000 = (sumTo l t 0 100000 l.length, 0) ∧ whatF s t = 0 ∧ valsF s t = valsTo l t l.length ∧ 1 ≤ (valsTo l t l.length).length ∧ (valsTo l t l.length).length ≤ 7 ∧ addTo (valsTo l t l.length) (valsTo l t l.length).length = sumTo l t 0 100000 l.length := by
  obtain ⟨i, x, hi, hx, rfl⟩ := names_from l _ t ht
  have hxok := h.ok x (List.mem_of_getElem? hx)
  have hn := (okEn_bd hxok).2.2.1
  have hw : whatF s x.what = 0 := whatF_ok h.code hn
  have hc : sumCode s x.what 0 100000 = 0 := sumCode_ok h.code (by rw [hn]; decide)
  refine ⟨okEn_what hxok, ?_, hw, ?_, vals_pos hx (by simp [isW]) _ hi, ?_, ?_⟩
  · rw [sumF_ok hc, h.read]
  · rw [valsF_ok hw, h.read]
  · have := valsTo_len l x.what l.length
    have := h.len
    omega
  · rw [addTo_all, vals_sum h.ok]
theorem sumNL_take (l : List En) (j : Nat) {ns : List ByteArray} {k : Nat} {t : ByteArray} (ht : ns[k]? = some t) :
    sumNL l j (ns.take (k + 1)) = sumNL l j (ns.take k) + sumTo l t 0 100000 j ∧ cntNL l j (ns.take (k + 1)) = cntNL l j (ns.take k) + (valsTo l t j).length := by
  unfold sumNL cntNL
  rw [List.take_add_one, ht]
  simp [List.map_append, List.sum_append]
theorem sumNL_bd {l : List En} (hok : ∀ x ∈ l, okEn x = true) (hl : l.length ≤ 7) : ∀ ns : List ByteArray, -(7000000 * (ns.length : Int)) ≤ sumNL l l.length ns ∧ sumNL l l.length ns ≤ 7000000 * (ns.length : Int) ∧ cntNL l l.length ns ≤ 7 * ns.length
  | [] => by simp [sumNL, cntNL]
  | t :: ns => by
    have ih := sumNL_bd hok hl ns
    have hb := sumTo_bd (t := t) (a := 0) (b := 100000) hok l.length
    have hv := valsTo_len l t l.length
    unfold sumNL cntNL at ih ⊢
    rw [List.map_cons, List.sum_cons, List.map_cons, List.sum_cons, List.length_cons]
    omega
end Go.Proofs.YtjmlcobbjpmjpaaDoor
