/- What the law of counts says of its sums: plain; its helper f6sum, and lists compared that draw alone. -/
import Derived.Test.YtjmlcobbjpmjpaaDoorEvN
import Derived.Test.YtjmlcobbjpmjpaaDoorEvX
import Derived.Test.YtjmlcobbjpmjpaaDoorFew
import Derived.Test.YtjmlcobbjpmjpaaDoorI64
set_option linter.unusedVariables false
set_option linter.unusedSimpArgs false
namespace Go.Proofs.YtjmlcobbjpmjpaaDoor
open Go.RowKit

theorem tot_app2 (a b : List Int) : tot (a ++ b) = tot a + tot b := by
  induction a with
  | nil => simp [tot]
  | cons x a ih => simp only [List.cons_append, tot, ih]; omega
theorem sumTo_tot {xs : List Int} (h : ∀ x ∈ xs, 0 ≤ x) : ∀ k, k ≤ xs.length → sumTo xs k = tot (xs.take k)
  | 0, _ => by simp [sumTo, tot]
  | k + 1, hk => by
    have ih := sumTo_tot h k (by omega)
    have hx : xs[k]? = some (xs[k]'(by omega)) := List.getElem?_eq_getElem (by omega)
    have h0 := h _ (List.mem_of_getElem? hx)
    rw [sumTo_step hx, ih, List.take_add_one, hx, tot_app2]
    have : posI (xs[k]'(by omega)) = xs[k]'(by omega) := by unfold posI; rw [if_pos h0]
    simp [tot, this]
theorem sumTo_all {xs : List Int} {m : Nat} (h : ∀ x ∈ xs, 0 ≤ x) (hm : xs.length = m) : sumTo xs m = tot xs := by
  rw [← hm, sumTo_tot h _ (Nat.le_refl _), List.take_length]
theorem hist_count (f : Ev → Int) (m : Nat) (i : Nat) (hi : i < m) : ∀ (l : List Ev) (hs : List Int), hs.length = m → (∀ e ∈ l, 0 ≤ f e ∧ f e < m) → (l.foldl (fun hs e => bump hs (f e)) hs)[i]? = (hs[i]?).map (· + ((l.filter fun e => f e == (i : Int)).length : Int))
  | [], hs, hl, _ => by
    rw [List.foldl_nil, List.getElem?_eq_getElem (by omega)]
    simp
  | a :: l, hs, hl, hm => by
    have ha := hm a List.mem_cons_self
    have hg : hs[i]? = some (hs[i]'(by omega)) := List.getElem?_eq_getElem (by omega)
    rw [List.foldl_cons, hist_count f m i hi l (bump hs (f a)) (by rw [bump_length]; exact hl) (fun e he => hm e (List.mem_cons_of_mem _ he)), List.filter_cons]
    by_cases e : f a = (i : Int)
    · have e1 : (f a).toNat = i := by omega
      have hb : bump hs (f a) = hs.set i (hs[i]'(by omega) + 1) := by unfold bump; rw [e1, hg]; rfl
      rw [hb, List.getElem?_set_self (by omega), hg, if_pos (by simp [e])]
      simp
      omega
    · have hb : (bump hs (f a))[i]? = hs[i]? := by unfold bump; rw [List.getElem?_set_ne (by omega)]
      rw [hb, if_neg (by simp [e])]
theorem cross_sum {l : List Ev} (hok : okEv l = true) {i : Nat} (hi : i < 10) : (stationsOf l)[i]? = some (sumTo (crossRow l i) 24) := by
  have hh : ∀ e ∈ l, 0 ≤ e.h ∧ e.h < 24 := fun e he => by
    obtain ⟨j, hj, rfl⟩ := List.mem_iff_getElem.1 he
    have := okE_h (okEv_all hok (List.getElem?_eq_getElem hj))
    omega
  have hs : ∀ e ∈ l, 0 ≤ e.s ∧ e.s < 10 := fun e he => by
    obtain ⟨j, hj, rfl⟩ := List.mem_iff_getElem.1 he
    have := okE_s (okEv_all hok (List.getElem?_eq_getElem hj))
    omega
  rw [sumTo_all (xs := crossRow l i) (fun x hx => (histOf_bound _ _ _ x hx).1) (crossRow_len l i)]
  unfold crossRow
  rw [tot_hist (·.h) 24 _ (fun e he => hh e (List.mem_filter.1 he).1)]
  unfold stationsOf histOf
  rw [hist_count (·.s) 10 i hi l (zer 10) (zer_length 10) hs]
  rw [show (zer 10)[i]? = some 0 by unfold zer; rw [List.getElem?_replicate, if_pos hi]]
  simp
theorem hours_sum {l : List Ev} (hok : okEv l = true) : sumTo (hoursOf l) 24 = l.length := by
  rw [sumTo_all (xs := hoursOf l) (fun x hx => (histOf_bound _ _ _ x hx).1) (histOf_length _ _ _)]
  exact tot_hist (·.h) 24 l (fun e he => by
    obtain ⟨j, hj, rfl⟩ := List.mem_iff_getElem.1 he
    have := okE_h (okEv_all hok (List.getElem?_eq_getElem hj))
    omega)
theorem stations_sum {l : List Ev} (hok : okEv l = true) : sumTo (stationsOf l) 10 = l.length := by
  rw [sumTo_all (xs := stationsOf l) (fun x hx => (histOf_bound _ _ _ x hx).1) (histOf_length _ _ _)]
  exact tot_hist (·.s) 10 l (fun e he => by
    obtain ⟨j, hj, rfl⟩ := List.mem_iff_getElem.1 he
    have := okE_s (okEv_all hok (List.getElem?_eq_getElem hj))
    omega)
theorem movTo_get (hs : List Int) (h : Nat) : ∀ (k i : Nat), i < k → (movTo hs h k)[i]? = some (sumTo ((hs.drop i).take h) h)
  | 0, i, hi => by omega
  | k + 1, i, hi => by
    rw [movTo]
    by_cases e : i < k
    · rw [List.getElem?_append_left (by rw [movTo_len]; exact e)]
      exact movTo_get hs h k i e
    · obtain rfl : i = k := by omega
      rw [List.getElem?_append_right (by rw [movTo_len]; omega), movTo_len]
      simp
theorem cross_n {l : List Ev} {k : Nat} (h : k < crossN l) : okEv l = true ∧ k < 10 ∧ crossN l = 10 := by
  unfold crossN at h ⊢
  rcases ho : okEv l with _ | _
  · rw [ho] at h; simp at h
  · rw [ho] at h; simp at h; exact ⟨rfl, h, by simp⟩
theorem crossRow_bd2 {l : List Ev} (hok : okEv l = true) (k : Nat) : ∀ x ∈ crossRow l k, -1000000000000 ≤ x ∧ x ≤ 1000000000000 := fun x hx => by
  have h1 := crossRow_bd l k x hx
  have h2 := okEv_len hok
  omega

theorem Sq.readsR {w : World} {lo hi m n c : Nat} {t tt : TypeId} {A : Option Addr} {gs : List Nat} {R : Nat → List Int} (h : Sq w lo hi m t tt A n c gs R) {k g : Nat} (hg : gs[k]? = some g) : Reads w w.heap.size 1 (some ⟨g, 0, none⟩) m (ints (R k)) := by
  obtain ⟨a, b, c, d⟩ := h.2.1.row k g hg
  exact d.readsL (by rw [ints_length]; omega)
theorem Sl.cap {w : World} {lo hi n c : Nat} {t : TypeId} {A : Option Addr} {xs : List Value} {size : Nat} (h : Sl w lo hi t size A n c xs) : n ≤ c := by
  rcases h.form with ⟨_, h0, _⟩ | ⟨g, cur, _, _, _, _, h1, _⟩
  · omega
  · exact h1
/-- What the law asks of the moving sums. -/
theorem mov_facts {l : List Ev} {h : Nat} (hok : okEv l = true) (hw : inR (h : Int) 1 24 = true) : ∃ (m q : Nat) (v : Int), 1 ≤ h ∧ h + m = 25 ∧ moving l h = (movTo (hoursOf l) h m, 0) ∧ busyWin l h = ((q : Int), v, 0) ∧ q < m ∧ (movTo (hoursOf l) h m)[q]? = some v ∧ ∀ (i : Nat) (x : Int), i < m → (movTo (hoursOf l) h m)[i]? = some x → x ≤ v := by
  have hb := inR_true.1 hw
  have hlen := movTo_len (hoursOf l) h (25 - h)
  have hq := bestTo_lt' (movTo (hoursOf l) h (25 - h)) (k := 25 - h) (by omega)
  refine ⟨25 - h, _, _, by omega, by omega, moving_ok hok hw, busyWin_ok hok hw, hq, ?_, fun i x hi hx => ?_⟩
  · rw [List.getElem?_eq_getElem (by omega), valTo]
    simp [List.getD, List.getElem?_eq_getElem (show bestTo (movTo (hoursOf l) h (25 - h)) (25 - h) < (movTo (hoursOf l) h (25 - h)).length by omega)]
  · have := best_le (movTo (hoursOf l) h (25 - h)) (25 - h) i hi
    rwa [getD_of hx] at this
theorem hours_len' (l : List Ev) : (hoursOf l).length = 24 := histOf_length _ _ _
theorem stations_len' (l : List Ev) : (stationsOf l).length = 10 := histOf_length _ _ _
theorem f6sum_any (A : Option Addr) (n c B : Nat) (xs : List Int) (w : World) (h : Reads w B 1 A n (ints xs)) (hn : n ≤ 1048576) (hb : ∀ x ∈ xs, -1000000000000 ≤ x ∧ x ≤ 1000000000000) :
    Calls Tryd.prog 43 #[.slice A n c] w fun e w' => e = .returned (.int .i64 (sumTo xs n)) ∧ w = w' := by
  have HB := Lib.hid hb
  clear hb
  go_enter Tryd.func43, Tryd.ntmps43
  go_wp2
  go_loop [3, 4] (fun s i => ∃ k : Nat, k ≤ n ∧ i = .int .i64 k ∧ s = .int .i64 (sumTo xs k)) (fun _ i => n - (intOf i).toNat)
  case atStart => exact ⟨0, Nat.zero_le _, rfl, rfl⟩
  case round =>
    obtain ⟨k, hk, rfl, rfl⟩ := hrel
    by_cases hlt : k < n
    · obtain ⟨x, b, off, he, rfl, hb, c0⟩ := int_at h hlt
      have hx := HB.out x (List.mem_of_getElem? he)
      have hs := sumTo_bd (by omega) HB.out k
      have HS := Lib.hid (sumTo_step he)
      clear he h
      generalize sumTo xs k = s at *
      go_wp2
      go_round
      case rel => exact ⟨k + 1, by omega, by go_num, by rw [HS.out]⟩
      case measure => simp [intOf]; omega
    · obtain rfl : k = n := by omega
      go_wp2
      go_ret
      exact ⟨rfl, rfl⟩
theorem f6ints_quiet (A A' : Option Addr) (n c c' B : Nat) (l : List Int) (w : World) (h : Reads w B 1 A n (ints l)) (h' : Reads w B 1 A' n (ints l)) (hn : n ≤ 1048576) :
    Calls Tryd.prog 38 #[.slice A n c, .slice A' n c'] w fun e w' => e = .returned (.bool true) ∧ ∃ q, w' = w.drewN q := by
  go_enter Tryd.func38, Tryd.ntmps38
  go_wp2
  go_loopw [5] (fun i wr => ∃ k q : Nat, k ≤ n ∧ i = .int .i64 k ∧ wr = w.drewN q) (fun i _ => n - (intOf i).toNat)
  case atStart => exact ⟨0, 0, Nat.zero_le _, rfl, rfl⟩
  case round =>
    obtain ⟨k, q, hk, rfl, rfl⟩ := hrel
    by_cases hlt : k < n
    · obtain ⟨x, b, off, he, rfl, hb, c0⟩ := int_at h hlt
      obtain ⟨x', b', off', he', rfl, hb', c1⟩ := int_at h' hlt
      obtain rfl : x = x' := by rw [he] at he'; injection he'
      have hlt' : (k : Int) < n := by omega
      have hk0 : (0 : Int) ≤ k := by omega
      clear he he' h h'
      go_wp2_with fail
      go_quiet (fail)
      go_wp2
      go_roundw
      case rel => exact ⟨k + 1, _, by omega, by go_num, rfl⟩
      case measure => simp [intOf]; omega
    · obtain rfl : k = n := by omega
      go_wp2
      go_ret
      exact ⟨rfl, q, rfl⟩
end Go.Proofs.YtjmlcobbjpmjpaaDoor
