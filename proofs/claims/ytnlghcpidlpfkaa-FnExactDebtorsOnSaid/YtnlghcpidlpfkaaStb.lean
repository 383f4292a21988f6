/- A stable sort by merging in place, told by place: what the turns and the merges do. No function of the program in sight. -/
import Derived.Test.YtnlghcpidlpfkaaMem
set_option linter.unusedVariables false
set_option linter.unusedSimpArgs false
namespace Go.Proofs.Ytnlghcpidlpfkaa.Stb

section
variable {α : Type}
/-- A row of n things, told by place. -/
def row (f : Nat → α) (n : Nat) : List α := (List.range n).map f
theorem row_length (f : Nat → α) (n : Nat) : (row f n).length = n := by simp [row]
theorem row_get {f : Nat → α} {n k : Nat} (h : k < n) : (row f n)[k]? = some (f k) := by simp [row, h]
theorem row_ext {f g : Nat → α} {n : Nat} (h : ∀ k, k < n → f k = g k) : row f n = row g n := by
  unfold row
  exact List.map_congr_left fun k hk => h k (by simpa using hk)
def upd (f : Nat → α) (i : Nat) (v : α) : Nat → α := fun k => if k = i then v else f k
def swp (f : Nat → α) (i j : Nat) : Nat → α := fun k => if k = i then f j else if k = j then f i else f k
theorem row_set (f : Nat → α) (n i : Nat) (v : α) : (row f n).set i v = row (upd f i v) n := by
  apply List.ext_getElem?
  intro k
  rw [List.getElem?_set]
  by_cases hk : k < n
  · rw [row_get hk]
    by_cases hik : i = k
    · subst hik; rw [row_get (f := upd f i v) hk]; simp [row_length, hk, upd]
    · rw [if_neg hik, row_get hk]; simp [upd, Ne.symm hik]
  · have h1 : (row f n)[k]? = none := by simp [row, hk]
    have h2 : (row (upd f i v) n)[k]? = none := by simp [row, hk]
    rw [h1, h2]
    by_cases hik : i = k
    · subst hik; simp [row_length, hk]
    · rw [if_neg hik]
theorem upd_upd (f : Nat → α) (i j : Nat) : upd (upd f i (f j)) j (f i) = swp f i j := by
  funext k
  unfold upd swp
  by_cases h1 : k = j
  · by_cases h2 : k = i
    · subst h1; subst h2; simp
    · subst h1; simp [h2]
  · by_cases h2 : k = i
    · subst h2; simp [h1]
    · simp [h1, h2]
theorem swp_perm (f : Nat → α) {n i j : Nat} (hi : i < n) (hj : j < n) : (row (swp f i j) n).Perm (row f n) := by
  have e : row (swp f i j) n = ((row f n).toArray.swap i j (by simp [row_length, hi]) (by simp [row_length, hj])).toList := by
    apply List.ext_getElem
    · simp [row_length]
    · intro k h1 h2
      have hk : k < n := by simpa [row_length] using h1
      simp only [row, swp, List.getElem_map, List.getElem_range, Array.toList_swap, List.getElem_set]
      by_cases h3 : k = j
      · subst h3
        by_cases h4 : k = i
        · subst h4; simp
        · simp [h4]
      · by_cases h4 : k = i
        · subst h4; simp [Ne.symm h3]
        · simp [h3, h4, Ne.symm h3, Ne.symm h4]
  rw [e]
  have := Array.swap_perm (xs := (row f n).toArray) (i := i) (j := j) (by simp [row_length, hi]) (by simp [row_length, hj])
  exact Array.perm_iff_toList_perm.1 this
/-- f turned within [a, b): the same things, each still there. -/
structure Turned (f g : Nat → α) (a b n : Nat) : Prop where
  out : ∀ k, k < a ∨ b ≤ k → g k = f k
  inn : ∀ k, a ≤ k → k < b → ∃ k', a ≤ k' ∧ k' < b ∧ g k = f k'
  perm : (row g n).Perm (row f n)
theorem Turned.refl (f : Nat → α) (a b n : Nat) : Turned f f a b n := ⟨fun _ _ => rfl, fun k h1 h2 => ⟨k, h1, h2, rfl⟩, List.Perm.refl _⟩
theorem Turned.wide {f g : Nat → α} {a b a' b' n : Nat} (h : Turned f g a b n) (ha : a' ≤ a) (hb : b ≤ b') : Turned f g a' b' n := by
  refine ⟨fun k hk => h.out k (by omega), fun k h1 h2 => ?_, h.perm⟩
  by_cases hk : a ≤ k ∧ k < b
  · obtain ⟨k', c1, c2, c3⟩ := h.inn k hk.1 hk.2
    exact ⟨k', by omega, by omega, c3⟩
  · exact ⟨k, h1, h2, h.out k (by omega)⟩
theorem Turned.trans {f g u : Nat → α} {a b n : Nat} (h : Turned f g a b n) (k : Turned g u a b n) : Turned f u a b n := by
  refine ⟨fun x hx => (k.out x hx).trans (h.out x hx), fun x h1 h2 => ?_, k.perm.trans h.perm⟩
  obtain ⟨y, y1, y2, y3⟩ := k.inn x h1 h2
  obtain ⟨z, z1, z2, z3⟩ := h.inn y y1 y2
  exact ⟨z, z1, z2, y3.trans z3⟩
theorem Turned.swap_ (f : Nat → α) {i j a b n : Nat} (hi : a ≤ i ∧ i < b) (hj : a ≤ j ∧ j < b) (hb : b ≤ n) : Turned f (swp f i j) a b n := by
  refine ⟨fun k hk => ?_, fun k h1 h2 => ?_, swp_perm f (by omega) (by omega)⟩
  · unfold Stb.swp; rw [if_neg (by omega), if_neg (by omega)]
  · unfold Stb.swp
    by_cases h3 : k = i
    · exact ⟨j, hj.1, hj.2, by rw [if_pos h3]⟩
    · by_cases h4 : k = j
      · exact ⟨i, hi.1, hi.2, by rw [if_neg h3, if_pos h4]⟩
      · exact ⟨k, h1, h2, by rw [if_neg h3, if_neg h4]⟩
/-- Two stretches of n exchanged. -/
def exch (f : Nat → α) (a b n : Nat) : Nat → α := fun k => if a ≤ k ∧ k < a + n then f (k - a + b) else if b ≤ k ∧ k < b + n then f (k - b + a) else f k
theorem exch_zero (f : Nat → α) (a b : Nat) : exch f a b 0 = f := by
  funext k; unfold exch; rw [if_neg (by omega), if_neg (by omega)]
theorem exch_step (f : Nat → α) {a b n : Nat} (h : a + n + 1 ≤ b) : swp (exch f a b n) (a + n) (b + n) = exch f a b (n + 1) := by
  funext k
  unfold swp exch
  by_cases h1 : k = a + n
  · subst h1
    rw [if_pos rfl, if_neg (by omega), if_neg (by omega), if_pos (by omega)]
    congr 1; omega
  · rw [if_neg h1]
    by_cases h2 : k = b + n
    · subst h2
      rw [if_pos rfl, if_neg (by omega), if_neg (by omega), if_neg (by omega), if_pos (by omega)]
      congr 1; omega
    · rw [if_neg h2]
      by_cases h3 : a ≤ k ∧ k < a + n
      · rw [if_pos h3, if_pos (by omega)]
      · rw [if_neg h3]
        by_cases h4 : b ≤ k ∧ k < b + n
        · rw [if_pos h4, if_neg (by omega), if_pos (by omega)]
        · rw [if_neg h4, if_neg (by omega), if_neg (by omega)]
/-- Two neighbouring stretches [a, m) and [m, b) in the other order. -/
def rota (f : Nat → α) (a m b : Nat) : Nat → α := fun k => if a ≤ k ∧ k < a + (b - m) then f (k - a + m) else if a + (b - m) ≤ k ∧ k < b then f (k - (b - m)) else f k
theorem rota_left (f : Nat → α) {m i j : Nat} (hi : i ≤ m) (hj : j < i) : rota (exch f (m - i) m j) (m - i + j) m (m + j) = rota f (m - i) m (m + j) := by
  funext k
  unfold rota exch
  have e : m + j - m = j := by omega
  rw [e]
  by_cases h0 : k < m - i ∨ m + j ≤ k
  · rw [if_neg (by omega), if_neg (by omega), if_neg (by omega), if_neg (by omega), if_neg (by omega), if_neg (by omega)]
  by_cases h1 : k < m - i + j
  · rw [if_neg (by omega), if_neg (by omega), if_pos (by omega), if_pos (by omega)]
  by_cases h2 : k < m - i + j + j
  · rw [if_pos (by omega), if_neg (by omega), if_pos (by omega), if_neg (by omega), if_pos (by omega)]
    congr 1; omega
  · rw [if_neg (by omega), if_pos (by omega), if_neg (by omega), if_neg (by omega), if_neg (by omega), if_pos (by omega)]
theorem rota_right (f : Nat → α) {m i j : Nat} (hi : i ≤ m) (hj : i < j) : rota (exch f (m - i) (m + j - i) i) (m - i) m (m + j - i) = rota f (m - i) m (m + j) := by
  funext k
  unfold rota exch
  have e : m + j - m = j := by omega
  have e2 : m + j - i - m = j - i := by omega
  rw [e, e2]
  by_cases h0 : k < m - i ∨ m + j ≤ k
  · rw [if_neg (by omega), if_neg (by omega), if_neg (by omega), if_neg (by omega), if_neg (by omega), if_neg (by omega)]
  by_cases h1 : k < m - i + (j - i)
  · rw [if_pos (by omega), if_neg (by omega), if_neg (by omega), if_pos (by omega)]
  by_cases h2 : k < m + j - i
  · rw [if_neg (by omega), if_pos (by omega), if_pos (by omega), if_pos (by omega)]
    congr 1; omega
  · rw [if_neg (by omega), if_neg (by omega), if_neg (by omega), if_pos (by omega), if_neg (by omega), if_pos (by omega)]
    congr 1; omega
theorem rota_same (f : Nat → α) {m i : Nat} (hi : i ≤ m) : exch f (m - i) m i = rota f (m - i) m (m + i) := by
  funext k
  unfold rota exch
  have e : m + i - m = i := by omega
  rw [e]
  by_cases h0 : k < m - i ∨ m + i ≤ k
  · rw [if_neg (by omega), if_neg (by omega), if_neg (by omega), if_neg (by omega)]
  by_cases h1 : k < m
  · rw [if_pos (by omega), if_pos (by omega)]
  · rw [if_neg (by omega), if_pos (by omega), if_neg (by omega), if_pos (by omega)]
    congr 1; omega
theorem exch_turned (f : Nat → α) {a b N : Nat} : ∀ n, a + n ≤ b → b + n ≤ N → Turned f (exch f a b n) a (b + n) N
  | 0, _, _ => by rw [exch_zero]; exact Turned.refl _ _ _ _
  | n + 1, h1, h2 => by
    rw [← exch_step f (show a + n + 1 ≤ b by omega)]
    exact ((exch_turned f n (by omega) (by omega)).wide (Nat.le_refl _) (by omega)).trans (Turned.swap_ _ ⟨by omega, by omega⟩ ⟨by omega, by omega⟩ h2)
theorem rota_turned {N : Nat} : ∀ (q : Nat) (f : Nat → α) (m i j : Nat), i + j ≤ q → i ≤ m → m + j ≤ N → Turned f (rota f (m - i) m (m + j)) (m - i) (m + j) N := by
  intro q
  induction q with
  | zero =>
    intro f m i j h _ _
    obtain rfl : i = 0 := by omega
    obtain rfl : j = 0 := by omega
    have : rota f (m - 0) m (m + 0) = f := by
      funext k; unfold rota; rw [if_neg (by omega), if_neg (by omega)]
    rw [this]; exact Turned.refl _ _ _ _
  | succ q ih =>
    intro f m i j h hi hN
    rcases Nat.lt_trichotomy i j with hlt | he | hgt
    · by_cases h0 : i = 0
      · subst h0
        have : rota f (m - 0) m (m + j) = f := by
          funext k; unfold rota
          by_cases hk : m ≤ k ∧ k < m + j
          · rw [if_pos (by omega)]; congr 1; omega
          · rw [if_neg (by omega), if_neg (by omega)]
        rw [this]; exact Turned.refl _ _ _ _
      · rw [← rota_right f hi hlt]
        have h1 := exch_turned f (a := m - i) (b := m + j - i) (N := N) i (by omega) (by omega)
        have h2 := ih (exch f (m - i) (m + j - i) i) m i (j - i) (by omega) hi (by omega)
        rw [show m + (j - i) = m + j - i by omega] at h2
        exact (h1.wide (Nat.le_refl _) (by omega)).trans (h2.wide (Nat.le_refl _) (by omega))
    · subst he
      rw [← rota_same f hi]
      exact exch_turned f i (by omega) hN
    · by_cases h0 : j = 0
      · subst h0
        have : rota f (m - i) m (m + 0) = f := by
          funext k; unfold rota
          by_cases hk : m - i ≤ k ∧ k < m
          · rw [if_neg (by omega), if_pos (by omega)]; congr 1; omega
          · rw [if_neg (by omega), if_neg (by omega)]
        rw [this]; exact Turned.refl _ _ _ _
      · rw [← rota_left f hi hgt]
        have h1 := exch_turned f (a := m - i) (b := m) (N := N) j (by omega) (by omega)
        have h2 := ih (exch f (m - i) m j) m (i - j) j (by omega) (by omega) (by omega)
        rw [show m - (i - j) = m - i + j by omega] at h2
        exact h1.trans (h2.wide (by omega) (Nat.le_refl _))
theorem rota_turned' (f : Nat → α) {a m b N : Nat} (h1 : a ≤ m) (h2 : m ≤ b) (h3 : b ≤ N) : Turned f (rota f a m b) a b N := by
  have := rota_turned (N := N) (m - a + (b - m)) f m (m - a) (b - m) (Nat.le_refl _) (by omega) (by omega)
  rw [show m - (m - a) = a by omega, show m + (b - m) = b by omega] at this
  exact this
/-- One thing moved up. -/
theorem rota_up (f : Nat → α) {a k : Nat} (h : a ≤ k) : swp (rota f a (a + 1) (k + 1)) k (k + 1) = rota f a (a + 1) (k + 2) := by
  funext x
  unfold swp rota
  by_cases h1 : x = k
  · subst h1
    rw [if_pos rfl, if_neg (by omega), if_neg (by omega), if_pos (by omega)]
    congr 1; omega
  rw [if_neg h1]
  by_cases h2 : x = k + 1
  · subst h2
    rw [if_pos rfl, if_neg (by omega), if_pos (by omega), if_neg (by omega), if_pos (by omega)]
    congr 1; omega
  rw [if_neg h2]
  by_cases h3 : a ≤ x ∧ x < k
  · rw [if_pos (by omega), if_pos (by omega)]
  · rw [if_neg (by omega), if_neg (by omega), if_neg (by omega), if_neg (by omega)]
/-- One thing moved down. -/
theorem rota_down (f : Nat → α) {m k : Nat} (h : k + 1 ≤ m) : swp (rota f (k + 1) m (m + 1)) (k + 1) k = rota f k m (m + 1) := by
  funext x
  unfold swp rota
  have e : m + 1 - m = 1 := by omega
  rw [e]
  by_cases h1 : x = k + 1
  · subst h1
    rw [if_pos rfl, if_neg (by omega), if_neg (by omega), if_neg (by omega), if_pos (by omega)]
    congr 1
  rw [if_neg h1]
  by_cases h2 : x = k
  · subst h2
    rw [if_pos rfl, if_pos (by omega), if_pos (by omega)]
    congr 1; omega
  rw [if_neg h2]
  by_cases h3 : k + 1 < x ∧ x < m + 1
  · rw [if_neg (by omega), if_pos (by omega), if_neg (by omega), if_pos (by omega)]
  · rw [if_neg (by omega), if_neg (by omega), if_neg (by omega), if_neg (by omega)]
theorem rota_nil (f : Nat → α) (a m b : Nat) (h : a = m ∨ m = b) (h1 : a ≤ m) (h2 : m ≤ b) : rota f a m b = f := by
  funext x
  unfold rota
  by_cases h3 : a ≤ x ∧ x < a + (b - m)
  · rw [if_pos h3]; congr 1; omega
  · rw [if_neg h3]
    by_cases h4 : a + (b - m) ≤ x ∧ x < b
    · rw [if_pos h4]; congr 1; omega
    · rw [if_neg h4]
/-- What the order of a comparison, the order wanted and the order at the beginning have to do with each other. -/
structure Ord3 (lt : α → α → Bool) (R S : α → α → Prop) : Prop where
  of_lt : ∀ x y, lt x y = true → R x y
  tie : ∀ x y, lt y x = false → S x y → R x y
  left : ∀ x y z, R x y → lt y z = true → lt x z = true
  right : ∀ x y z, lt x y = true → R y z → lt x z = true
def Srt (R : α → α → Prop) (f : Nat → α) (a b : Nat) : Prop := ∀ i j, a ≤ i → i < j → j < b → R (f i) (f j)
def Crs (S : α → α → Prop) (f : Nat → α) (a m b : Nat) : Prop := ∀ i j, a ≤ i → i < m → m ≤ j → j < b → S (f i) (f j)
section
variable {lt : α → α → Bool} {R S : α → α → Prop} {f g : Nat → α} {a m b n : Nat}
theorem Srt.sub {a' b' : Nat} (h : Srt R f a b) (h1 : a ≤ a') (h2 : b' ≤ b) : Srt R f a' b' := fun i j q1 q2 q3 => h i j (by omega) q2 (by omega)
/-- The stretch of one thing put into the stretch behind it. -/
theorem put_up (o : Ord3 lt R S) {i : Nat} (hi : a + 1 ≤ i) (hib : i ≤ b) (hs : Srt R f (a + 1) b) (hc : Crs S f a (a + 1) b) (h1 : i = a + 1 ∨ lt (f (i - 1)) (f a) = true) (h2 : i = b ∨ lt (f i) (f a) = false) : Srt R (rota f a (a + 1) i) a b := by
  have lo : ∀ k, a + 1 ≤ k → k < i → R (f k) (f a) := by
    intro k q1 q2
    rcases h1 with h1 | h1
    · omega
    · by_cases hk : k = i - 1
      · subst hk; exact o.of_lt _ _ h1
      · exact o.of_lt _ _ (o.left _ _ _ (hs k (i - 1) q1 (by omega) (by omega)) h1)
  have hi2 : ∀ k, i ≤ k → k < b → R (f a) (f k) := by
    intro k q1 q2
    rcases h2 with h2 | h2
    · omega
    · refine o.tie _ _ ?_ (hc a k (Nat.le_refl _) (by omega) (by omega) q2)
      by_cases hk : k = i
      · subst hk; exact h2
      · rcases hq : lt (f k) (f a) with _ | _
        · rfl
        · have := o.left _ _ _ (hs i k hi (by omega) q2) hq
          rw [this] at h2; cases h2
  intro x y q1 q2 q3
  unfold rota
  by_cases hx : x < i - 1
  · rw [if_pos (show a ≤ x ∧ x < a + (i - (a + 1)) by omega)]
    by_cases hy : y < i - 1
    · rw [if_pos (by omega)]; exact hs _ _ (by omega) (by omega) (by omega)
    · rw [if_neg (show ¬ (a ≤ y ∧ y < a + (i - (a + 1))) by omega)]
      by_cases hy2 : y = i - 1
      · rw [if_pos (by omega), show y - (i - (a + 1)) = a by omega]; exact lo _ (by omega) (by omega)
      · rw [if_neg (by omega)]; exact hs _ _ (by omega) (by omega) q3
  · rw [if_neg (show ¬ (a ≤ x ∧ x < a + (i - (a + 1))) by omega), if_neg (show ¬ (a ≤ y ∧ y < a + (i - (a + 1))) by omega), if_neg (show ¬ (a + (i - (a + 1)) ≤ y ∧ y < i) by omega)]
    by_cases hx2 : x = i - 1
    · rw [if_pos (by omega), show x - (i - (a + 1)) = a by omega]; exact hi2 _ (by omega) q3
    · rw [if_neg (by omega)]; exact hs _ _ (by omega) q2 q3
/-- The stretch of one thing put into the stretch ahead of it. -/
theorem put_down (o : Ord3 lt R S) {i : Nat} (hi : a ≤ i) (him : i ≤ m) (hs : Srt R f a m) (hc : Crs S f a m (m + 1)) (h1 : i = a ∨ lt (f m) (f (i - 1)) = false) (h2 : i = m ∨ lt (f m) (f i) = true) : Srt R (rota f i m (m + 1)) a (m + 1) := by
  have lo : ∀ k, a ≤ k → k < i → R (f k) (f m) := by
    intro k q1 q2
    rcases h1 with h1 | h1
    · omega
    · refine o.tie _ _ ?_ (hc k m q1 (by omega) (Nat.le_refl _) (by omega))
      by_cases hk : k = i - 1
      · subst hk; exact h1
      · rcases hq : lt (f m) (f k) with _ | _
        · rfl
        · have := o.right _ _ _ hq (hs k (i - 1) q1 (by omega) (by omega))
          rw [this] at h1; cases h1
  have hi2 : ∀ k, i ≤ k → k < m → R (f m) (f k) := by
    intro k q1 q2
    rcases h2 with h2 | h2
    · omega
    · by_cases hk : k = i
      · subst hk; exact o.of_lt _ _ h2
      · exact o.of_lt _ _ (o.right _ _ _ h2 (hs i k hi (by omega) q2))
  intro x y q1 q2 q3
  unfold rota
  have e : m + 1 - m = 1 := by omega
  rw [e]
  by_cases hx : x < i
  · rw [if_neg (show ¬ (i ≤ x ∧ x < i + 1) by omega), if_neg (show ¬ (i + 1 ≤ x ∧ x < m + 1) by omega)]
    by_cases hy : y < i
    · rw [if_neg (by omega), if_neg (by omega)]; exact hs _ _ q1 q2 (by omega)
    · by_cases hy2 : y = i
      · rw [if_pos (by omega), show y - i + m = m by omega]; exact lo _ q1 hx
      · rw [if_neg (by omega), if_pos (by omega)]; exact hs _ _ q1 (by omega) (by omega)
  · rw [if_neg (show ¬ (i ≤ y ∧ y < i + 1) by omega), if_pos (show i + 1 ≤ y ∧ y < m + 1 by omega)]
    by_cases hx2 : x = i
    · rw [if_pos (by omega), show x - i + m = m by omega]; exact hi2 _ (by omega) (by omega)
    · rw [if_neg (by omega), if_pos (by omega)]; exact hs _ _ (by omega) (by omega) (by omega)
/-- What holds of the two halves once the middle has been turned. -/
structure Halves (R S : α → α → Prop) (g : Nat → α) (a s mid e b : Nat) : Prop where
  s1 : Srt R g a s
  s2 : Srt R g s mid
  s3 : Srt R g mid e
  s4 : Srt R g e b
  c1 : Crs S g a s mid
  c2 : Crs S g mid e b
  cr : Crs R g a mid b
theorem halves (o : Ord3 lt R S) {s e mid : Nat} (h1 : a ≤ s) (h2 : s ≤ m) (h3 : m ≤ e) (h4 : e ≤ b) (hm : s + (e - m) = mid) (hs1 : Srt R f a m) (hs2 : Srt R f m b) (hc : Crs S f a m b)
    (hlo : s = a ∨ e = b ∨ lt (f e) (f (s - 1)) = false) (hhi : s = m ∨ e = m ∨ lt (f (e - 1)) (f s) = true) : Halves R S (rota f s m e) a s mid e b := by
  have g1 : ∀ k, k < s → rota f s m e k = f k := fun k hk => by unfold rota; rw [if_neg (by omega), if_neg (by omega)]
  have g2 : ∀ k, s ≤ k → k < mid → rota f s m e k = f (k - s + m) := fun k hk hk2 => by unfold rota; rw [if_pos (by omega)]
  have g3 : ∀ k, mid ≤ k → k < e → rota f s m e k = f (k - (e - m)) := fun k hk hk2 => by unfold rota; rw [if_neg (by omega), if_pos (by omega)]
  have g4 : ∀ k, e ≤ k → rota f s m e k = f k := fun k hk => by unfold rota; rw [if_neg (by omega), if_neg (by omega)]
  refine ⟨fun i j q1 q2 q3 => ?_, fun i j q1 q2 q3 => ?_, fun i j q1 q2 q3 => ?_, fun i j q1 q2 q3 => ?_, fun i j q1 q2 q3 q4 => ?_, fun i j q1 q2 q3 q4 => ?_, fun i j q1 q2 q3 q4 => ?_⟩
  · rw [g1 i (by omega), g1 j (by omega)]; exact hs1 _ _ q1 q2 (by omega)
  · rw [g2 i (by omega) (by omega), g2 j (by omega) (by omega)]; exact hs2 _ _ (by omega) (by omega) (by omega)
  · rw [g3 i (by omega) (by omega), g3 j (by omega) (by omega)]; exact hs1 _ _ (by omega) (by omega) (by omega)
  · rw [g4 i (by omega), g4 j (by omega)]; exact hs2 _ _ (by omega) q2 q3
  · rw [g1 i (by omega), g2 j (by omega) (by omega)]; exact hc _ _ q1 (by omega) (by omega) (by omega)
  · rw [g3 i (by omega) (by omega), g4 j (by omega)]; exact hc _ _ (by omega) (by omega) (by omega) q4
  · by_cases hi : i < s
    · rw [g1 i hi]
      by_cases hj : j < e
      · rw [g3 j q3 hj]; exact hs1 _ _ q1 (by omega) (by omega)
      · rw [g4 j (by omega)]
        refine o.tie _ _ ?_ (hc _ _ q1 (by omega) (by omega) q4)
        rcases hlo with hlo | hlo | hlo
        · omega
        · omega
        · rcases hq : lt (f j) (f i) with _ | _
          · rfl
          · exfalso
            have h5 : lt (f e) (f i) = true := by
              by_cases hje : j = e
              · subst hje; exact hq
              · exact o.left _ _ _ (hs2 e j (by omega) (by omega) q4) hq
            have h6 : lt (f e) (f (s - 1)) = true := by
              by_cases his : i = s - 1
              · subst his; exact h5
              · exact o.right _ _ _ h5 (hs1 i (s - 1) q1 (by omega) (by omega))
            rw [h6] at hlo; cases hlo
    · rw [g2 i (by omega) q2]
      by_cases hj : j < e
      · rw [g3 j q3 hj]
        rcases hhi with hhi | hhi | hhi
        · omega
        · omega
        · have h5 : lt (f (i - s + m)) (f s) = true := by
            by_cases hie : i - s + m = e - 1
            · rw [hie]; exact hhi
            · exact o.left _ _ _ (hs2 (i - s + m) (e - 1) (by omega) (by omega) (by omega)) hhi
          by_cases hjs : j - (e - m) = s
          · rw [hjs]; exact o.of_lt _ _ h5
          · exact o.of_lt _ _ (o.right _ _ _ h5 (hs1 s (j - (e - m)) h1 (by omega) (by omega)))
      · rw [g4 j (by omega)]; exact hs2 _ _ (by omega) (by omega) q4
/-- The halves merged, each by itself, are in order. -/
theorem halves_join {s e mid : Nat} {u v : Nat → α} {N : Nat} (h : Halves R S g a s mid e b) (hu : Turned g u a mid N) (su : Srt R u a mid) (hv : Turned u v mid b N) (sv : Srt R v mid b) : Srt R v a b := by
  intro i j q1 q2 q3
  by_cases hj : j < mid
  · rw [hv.out i (by omega), hv.out j (by omega)]; exact su _ _ q1 q2 hj
  · by_cases hi : i < mid
    · rw [hv.out i (by omega)]
      obtain ⟨i', i1, i2, i3⟩ := hu.inn i q1 hi
      obtain ⟨j', j1, j2, j3⟩ := hv.inn j (by omega) q3
      rw [i3, j3, hu.out j' (by omega)]
      exact h.cr _ _ i1 i2 j1 j2
    · exact sv _ _ (by omega) q2 q3
theorem Turned.srt_out {N : Nat} {x y : Nat} (h : Turned f g a b N) (hs : Srt R f x y) (hd : y ≤ a ∨ b ≤ x) : Srt R g x y := fun i j q1 q2 q3 => by
  rw [h.out i (by omega), h.out j (by omega)]; exact hs _ _ q1 q2 q3
/-- Crossing pairs stand crossing when each side is turned within itself. -/
theorem Turned.crs_out {N : Nat} {x y z : Nat} (h : Turned f g a b N) (hc : Crs S f x y z) (hd : (x ≤ a ∧ b ≤ y) ∨ (y ≤ a ∧ b ≤ z) ∨ z ≤ a ∨ b ≤ x) : Crs S g x y z := by
  intro i j q1 q2 q3 q4
  have hi : ∃ i', x ≤ i' ∧ i' < y ∧ g i = f i' := by
    by_cases hk : a ≤ i ∧ i < b
    · obtain ⟨k, k1, k2, k3⟩ := h.inn i hk.1 hk.2
      exact ⟨k, by omega, by omega, k3⟩
    · exact ⟨i, q1, q2, h.out i (by omega)⟩
  have hj : ∃ j', y ≤ j' ∧ j' < z ∧ g j = f j' := by
    by_cases hk : a ≤ j ∧ j < b
    · obtain ⟨k, k1, k2, k3⟩ := h.inn j hk.1 hk.2
      exact ⟨k, by omega, by omega, k3⟩
    · exact ⟨j, q3, q4, h.out j (by omega)⟩
  obtain ⟨i', i1, i2, i3⟩ := hi
  obtain ⟨j', j1, j2, j3⟩ := hj
  rw [i3, j3]; exact hc _ _ i1 i2 j1 j2
end
end
theorem Turned.one {α : Type} {f g : Nat → α} {a n : Nat} (h : Turned f g a (a + 1) n) : g = f := by
  funext k
  by_cases hk : k = a
  · subst hk
    obtain ⟨k', h1, h2, h3⟩ := h.inn k (Nat.le_refl _) (by omega)
    rw [h3, show k' = k by omega]
  · exact h.out k (by omega)
theorem Turned.none {α : Type} {f : Nat → α} (a b n : Nat) : Turned f f a b n := Turned.refl f a b n
theorem rota_at {α : Type} (f : Nat → α) (k m : Nat) : rota f k m (m + 1) k = f m := by
  unfold rota
  rw [if_pos (by omega), show k - k + m = m by omega]
theorem rota_lo {α : Type} (f : Nat → α) {k m b x : Nat} (h : x < k) : rota f k m b x = f x := by
  unfold rota
  rw [if_neg (by omega), if_neg (by omega)]
theorem rota_end {α : Type} (f : Nat → α) {a k : Nat} (h : a ≤ k) : rota f a (a + 1) (k + 1) k = f a := by
  unfold rota
  rw [if_neg (by omega), if_pos (by omega), show k - (k + 1 - (a + 1)) = a by omega]
theorem rota_hi {α : Type} (f : Nat → α) {a m b x : Nat} (h : b ≤ x) (hm : m ≤ b) : rota f a m b x = f x ∨ x < a + (b - m) := by
  by_cases h1 : x < a + (b - m)
  · exact .inr h1
  · left; unfold rota; rw [if_neg (by omega), if_neg (by omega)]
theorem dvd_gap {B x y : Nat} (hx : B ∣ x) (hy : B ∣ y) (h : x < y) : x + B ≤ y := by
  have h1 : B ∣ y - x := Nat.dvd_sub hy hx
  have h2 := Nat.le_of_dvd (by omega) h1
  omega
section
variable {α : Type} {R S : α → α → Prop} {f0 f g : Nat → α} {a n B : Nat}
structure Blks (R S : α → α → Prop) (f : Nat → α) (B n : Nat) : Prop where
  srt : ∀ x, B ∣ x → Srt R f x (min (x + B) n)
  crs : ∀ x, B ∣ x → Crs S f 0 x n
structure Ins (R S : α → α → Prop) (f0 f : Nat → α) (a n : Nat) : Prop where
  srt : ∀ x, 20 ∣ x → x < a → Srt R f x (x + 20)
  same : ∀ x, a ≤ x → f x = f0 x
  crs : ∀ x, 20 ∣ x → Crs S f 0 x n
  tur : Turned f0 f 0 n n
theorem Srt.crs (h : Srt S f0 0 n) (x : Nat) : Crs S f0 0 x n := fun i j h1 h2 h3 h4 => h i j h1 (by omega) h4
theorem Ins.start (h : Srt S f0 0 n) : Ins R S f0 f0 0 n := ⟨fun x _ hx => by omega, fun _ _ => rfl, fun x _ => h.crs x, Turned.refl _ _ _ _⟩
theorem Ins.pre (h : Ins R S f0 f a n) (hs : Srt S f0 0 n) {b : Nat} (hb : b ≤ n) : Srt S f a b := fun i j h1 h2 h3 => by
  rw [h.same i h1, h.same j (by omega)]; exact hs i j (by omega) h2 (by omega)
theorem Ins.step (h : Ins R S f0 f a n) (ha : 20 ∣ a) (hb : a + 20 ≤ n) (ht : Turned f g a (a + 20) n) (hs : Srt R g a (a + 20)) : Ins R S f0 g (a + 20) n := by
  refine ⟨fun x hx hxa => ?_, fun x hx => (ht.out x (by omega)).trans (h.same x (by omega)), fun x hx => ?_, h.tur.trans (ht.wide (by omega) hb)⟩
  · by_cases hlt : x < a
    · exact ht.srt_out (h.srt x hx hlt) (.inl (dvd_gap hx ha hlt))
    · by_cases he : x = a
      · subst he; exact hs
      · have := dvd_gap ha hx (by omega); omega
  · refine ht.crs_out (h.crs x hx) ?_
    by_cases hlt : a < x
    · have := dvd_gap ha hx hlt; omega
    · omega
theorem Ins.last (h : Ins R S f0 f a n) (ha : 20 ∣ a) (hn : n < a + 20) (han : a ≤ n) (ht : Turned f g a n n) (hs : Srt R g a n) : Blks R S g 20 n ∧ Turned f0 g 0 n n := by
  refine ⟨⟨fun x hx => ?_, fun x hx => ?_⟩, h.tur.trans (ht.wide (by omega) (Nat.le_refl _))⟩
  · by_cases hlt : x < a
    · exact (ht.srt_out (h.srt x hx hlt) (.inl (dvd_gap hx ha hlt))).sub (Nat.le_refl _) (by omega)
    · exact hs.sub (by omega) (by omega)
  · refine ht.crs_out (h.crs x hx) ?_
    by_cases hlt : a < x
    · have := dvd_gap ha hx hlt; omega
    · omega
structure Mrg (R S : α → α → Prop) (f0 f : Nat → α) (B a n : Nat) : Prop where
  lo : ∀ x, 2 * B ∣ x → x < a → Srt R f x (x + 2 * B)
  hi : ∀ x, B ∣ x → a ≤ x → Srt R f x (min (x + B) n)
  c2 : ∀ x, 2 * B ∣ x → Crs S f 0 x n
  c1 : ∀ x, B ∣ x → a ≤ x → Crs S f 0 x n
  tur : Turned f0 f 0 n n
theorem dvd_two {B x : Nat} (h : 2 * B ∣ x) : B ∣ x := Nat.dvd_trans ⟨2, by omega⟩ h
theorem Mrg.start (h : Blks R S f B n) (ht : Turned f0 f 0 n n) : Mrg R S f0 f B 0 n :=
  ⟨fun x _ hx => by omega, fun x hx _ => h.srt x hx, fun x hx => h.crs x (dvd_two hx), fun x hx _ => h.crs x hx, ht⟩
theorem Mrg.pre (h : Mrg R S f0 f B a n) (ha : 2 * B ∣ a) {b : Nat} (h1 : a + B < b) (h2 : b ≤ a + 2 * B) (hb : b ≤ n) : Srt R f a (a + B) ∧ Srt R f (a + B) b ∧ Crs S f a (a + B) b := by
  have hd := dvd_two ha
  have hd2 : B ∣ a + B := (Nat.dvd_add_right hd).2 (Nat.dvd_refl B)
  refine ⟨(h.hi a hd (Nat.le_refl _)).sub (Nat.le_refl _) (by omega), (h.hi (a + B) hd2 (by omega)).sub (Nat.le_refl _) (by omega), fun i j q1 q2 q3 q4 => h.c1 (a + B) hd2 (by omega) i j (by omega) q2 q3 (by omega)⟩
theorem Mrg.step (h : Mrg R S f0 f B a n) (hB : 0 < B) (ha : 2 * B ∣ a) (hb : a + 2 * B ≤ n) (ht : Turned f g a (a + 2 * B) n) (hs : Srt R g a (a + 2 * B)) : Mrg R S f0 g B (a + 2 * B) n := by
  refine ⟨fun x hx hxa => ?_, fun x hx hxa => ?_, fun x hx => ?_, fun x hx hxa => ?_, h.tur.trans (ht.wide (by omega) hb)⟩
  · by_cases hlt : x < a
    · exact ht.srt_out (h.lo x hx hlt) (.inl (dvd_gap hx ha hlt))
    · by_cases he : x = a
      · subst he; exact hs
      · have := dvd_gap ha hx (by omega); omega
  · exact ht.srt_out (h.hi x hx (by omega)) (.inr hxa)
  · refine ht.crs_out (h.c2 x hx) ?_
    by_cases hlt : a < x
    · have := dvd_gap ha hx hlt; omega
    · omega
  · exact ht.crs_out (h.c1 x hx (by omega)) (by omega)
theorem Mrg.last (h : Mrg R S f0 f B a n) (ha : 2 * B ∣ a) (hn : n < a + 2 * B) (han : a ≤ n) (ht : Turned f g a n n) (hs : Srt R g a n) : Blks R S g (2 * B) n ∧ Turned f0 g 0 n n := by
  refine ⟨⟨fun x hx => ?_, fun x hx => ?_⟩, h.tur.trans (ht.wide (by omega) (Nat.le_refl _))⟩
  · by_cases hlt : x < a
    · exact (ht.srt_out (h.lo x hx hlt) (.inl (dvd_gap hx ha hlt))).sub (Nat.le_refl _) (by omega)
    · exact hs.sub (by omega) (by omega)
  · refine ht.crs_out (h.c2 x hx) ?_
    by_cases hlt : a < x
    · have := dvd_gap ha hx hlt; omega
    · omega
theorem Mrg.last' (h : Mrg R S f0 f B a n) (hB : 0 < B) (ha : 2 * B ∣ a) (hn : n ≤ a + B) (han : a ≤ n) : Blks R S f (2 * B) n ∧ Turned f0 f 0 n n :=
  h.last ha (by omega) han (Turned.refl _ _ _ _) ((h.hi a (dvd_two ha) (Nat.le_refl _)).sub (Nat.le_refl _) (by omega))
end
end Go.Proofs.Ytnlghcpidlpfkaa.Stb
