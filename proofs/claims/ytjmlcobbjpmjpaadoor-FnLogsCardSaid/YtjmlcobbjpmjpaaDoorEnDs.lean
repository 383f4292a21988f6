/- Entries in order that are drawn; the log laws' small helpers. -/
import Derived.Test.YtjmlcobbjpmjpaaDoorEnDr
import Derived.Test.YtjmlcobbjpmjpaaDoorRdLog
import Derived.Test.YtjmlcobbjpmjpaaDoorI64
import Derived.Deep.DeepCutAuto
set_option linter.unusedVariables false
set_option linter.unusedSimpArgs false
namespace Go.Proofs.YtjmlcobbjpmjpaaDoor
open Go.RowKit

theorem daysUp_cons {a b : En} {t : List En} : daysUp (a :: b :: t) = (decide (a.day ≤ b.day) && daysUp (b :: t)) := rfl
theorem daysUp_snoc : ∀ {l : List En} {e : En}, daysUp l = true → dayR l ≤ e.day → daysUp (l ++ [e]) = true
  | [], e, _, _ => rfl
  | [a], e, _, h => by
    have : dayR [a] = a.day := rfl
    rw [this] at h
    show (decide (a.day ≤ e.day) && daysUp [e]) = true
    simp [daysUp, h]
  | a :: b :: t, e, hu, h => by
    rw [daysUp_cons, Bool.and_eq_true] at hu
    have h2 : dayR (b :: t) ≤ e.day := by
      have : dayR (a :: b :: t) = dayR (b :: t) := by simp [dayR, List.getLast?_cons_cons]
      rwa [this] at h
    have ih := daysUp_snoc hu.2 h2
    show (decide (a.day ≤ b.day) && daysUp (b :: t ++ [e])) = true
    rw [ih, hu.1]; rfl
theorem dayR_app (l : List En) (e : En) : dayR (l ++ [e]) = e.day := by simp [dayR]

set_option maxHeartbeats 4000000 in
set_option maxRecDepth 100000 in
theorem l27Entries_any (g k : Nat) (w : World) (h : Src g k w) (hk : k ≤ 1000000000) :
    Calls Tryd.prog 53 #[.pointer (some ⟨g, 0, none⟩), .int .i64 7] w fun e w' => ∃ (l : List En) (A : Option Addr) (d : Nat), e = .returned (.slice A l.length d) ∧ l.length ≤ 7 ∧ (∀ x ∈ l, okEn x = true) ∧ daysUp l = true ∧ Sl w' w.heap.size w'.heap.size 41 3 A l.length d (ens l) ∧ Src g (k + 200) w' ∧ Only g (g + 1) w w' := by
  have hgw := h.lt
  have HSL0 := Lib.hid (Sl.made w 41 3)
  go_enter Tryd.func53, Tryd.ntmps53
  go_wp2_with fail
  refine (pick_any g k 8 _ (h.alloc _) (by omega) ⟨by omega, by omega⟩).mono ?_
  rintro e w1 ⟨x1, rfl, hx1, s1, o1⟩
  have hx1a := hx1.lt (by omega)
  have hx1b := hx1.1
  clear hx1 h
  have z1 := o1.size
  simp at z1
  have HO1 := Lib.hid (((Only.refl g (g + 1) w).alloc _).trans o1)
  have HSL1 := Lib.hid ((HSL0.out.apart o1 (Or.inr (by omega))).wide (Nat.le_refl _) (hi' := w1.heap.size) (by omega))
  clear o1 HSL0
  obtain ⟨N, rfl⟩ := Int.eq_ofNat_of_zero_le hx1b
  go_wp2
  go_loopw [5, 6, 7] (fun o dy i wr => ∃ (l : List En) (A : Option Addr) (d r : Nat), r ≤ 7 ∧ r + l.length ≤ 7 ∧ i = .int .i64 (r : Int) ∧ dy = .int .i64 (dayR l) ∧ o = .slice A l.length d ∧ 0 ≤ dayR l ∧ dayR l ≤ 100000 ∧ (∀ x ∈ l, okEn x = true) ∧ daysUp l = true ∧ Sl wr w.heap.size wr.heap.size 41 3 A l.length d (ens l) ∧ Src g (k + 2 + 20 * (7 - r)) wr ∧ Only g (g + 1) w wr) (fun _ _ i _ => (intOf i).toNat)
  case atStart => exact ⟨[], _, _, N, by omega, by simp; omega, rfl, rfl, rfl, by decide, by decide, fun x hx => by simp at hx, rfl, HSL1.out, s1.more (by omega), HO1.out⟩
  case round =>
    obtain ⟨l, A, d, r, hr7, hr, rfl, rfl, rfl, hd0, hd1, hok, hup, hsl, hs, ho⟩ := hrel
    have HSL := Lib.hid hsl
    have HS := Lib.hid hs
    have HO := Lib.hid ho
    have HOK := Lib.hid hok
    have HUP := Lib.hid hup
    have zr := ho.size
    clear hsl hs ho hok hup HSL1 HO1 s1
    rcases Nat.eq_zero_or_pos r with h0 | h0
    · obtain rfl := h0
      go_wp2
      go_ret
      exact ⟨l, A, d, rfl, by omega, HOK.out, HUP.out, HSL.out, HS.out.more (by omega), HO.out⟩
    · obtain ⟨q, rfl⟩ : ∃ q, r = q + 1 := ⟨r - 1, by omega⟩
      clear h0
      generalize hD : dayR l = D at *
      have HD := Lib.hid hD
      clear hD
      go_wp2_with fail
      refine (l27DrawEntry_any g _ D _ HS.out (by omega) hd0 hd1).mono ?_
      rintro e w2 ⟨x, rfl, hgd, hsm, s2, o2⟩
      have z2 := o2.size
      obtain ⟨w3, hw3⟩ : ∃ y, w2.alloc (.cells #[.int .i64 x.day, .string x.what, .int .i64 x.val] 41) = y := ⟨_, rfl⟩
      have y3 : Blk w3 w2.heap.size 41 #[.int .i64 x.day, .string x.what, .int .i64 x.val] := by rw [← hw3]; exact Blk.new _ _ _
      have z3 : w2.heap.size < w3.heap.size := by rw [← hw3]; simp
      have s3 : Src g (k + 2 + 20 * (7 - (q + 1)) + 20) w3 := by rw [← hw3]; exact s2.alloc _
      have HO3 := Lib.hid (show Only g (g + 1) w w3 by rw [← hw3]; exact (HO.out.trans o2).alloc _)
      have HSL3 := Lib.hid (show Sl w3 w.heap.size wr.heap.size 41 3 A l.length d (ens l) by rw [← hw3]; exact (HSL.out.apart o2 (Or.inr (by omega))).up _)
      clear o2 s2
      have c0 := y3.cellAt 0 (by simp)
      have c1 := y3.cellAt 1 (by simp)
      have c2 := y3.cellAt 2 (by simp)
      simp only [List.getElem_toArray, List.getElem_cons_zero, List.getElem_cons_succ] at c0 c1 c2
      go_wp2_with fail
      clear hw3
      refine (l27Ok_any x _ _ hgd.2.1 c0 c1 c2).mono ?_
      rintro e w' ⟨rfl, rfl⟩
      rcases hx : okEn x with _ | _
      · clear hx
        go_wp2
        go_roundw
        case rel => exact ⟨l, A, d, q, by omega, by omega, by go_num, by rw [HD.out], rfl, by rw [HD.out]; exact hd0, by rw [HD.out]; exact hd1, HOK.out, HUP.out, HSL3.out.wide (Nat.le_refl _) (by omega), s3.more (by omega), HO3.out⟩
        case measure => simp [intOf]
      · have HX := Lib.hid hx
        have hxb := okEn_bd hx
        have hxb0 := hxb.1
        have hxb1 := hxb.2.1
        clear hx hxb
        by_cases hge : D ≤ x.day
        · go_wp2_with (at_builtin; refine wpList_oneF rfl _ _ 30 rfl 41 _ 3 32 Tryd.underlying30 info_en rfl (by decide) (by decide) HSL3.out (by omega) rfl (cellsEn x) _ rfl rfl rfl (ens_one x) (by omega) ?_; intro A7 d7 w7 sl7 b7 z7 f7 g7; have c7 : w7.cell? ⟨w2.heap.size, 0, none⟩ = some (.int .i64 x.day) := (World.cell?_of_block (f7 w2.heap.size z3 (fun ad had => (by have := HSL3.out.2 ad had; omega)))).trans c0; have HSL7 := Lib.hid sl7; have HB7 := Lib.hid b7; have HF7 := Lib.hid f7; clear sl7 b7 f7 g7)
          go_roundw
          case rel => exact ⟨l ++ [x], A7, d7, q, by omega, by simp; omega, by go_num, by rw [dayR_app], by simp, by rw [dayR_app]; exact hxb0, by rw [dayR_app]; exact hxb1, fun y hy => by
              rcases List.mem_append.1 hy with hy | hy
              · exact HOK.out y hy
              · rw [List.mem_singleton] at hy; subst hy; exact HX.out, daysUp_snoc HUP.out (by rw [HD.out]; exact hge), by have := HSL7.out; rw [ens_snoc]; simpa using this, (s3.below HB7.out (by omega)).more (by omega), HO3.out.then HB7.out (Nat.le_refl _)⟩
          case measure => simp [intOf]
        · have hge' : decide (D ≤ x.day) = false := by rw [decide_eq_false_iff_not]; exact hge
          go_wp2
          go_roundw
          case rel => exact ⟨l, A, d, q, by omega, by omega, by go_num, by rw [HD.out], rfl, by rw [HD.out]; exact hd0, by rw [HD.out]; exact hd1, HOK.out, HUP.out, HSL3.out.wide (Nat.le_refl _) (by omega), s3.more (by omega), HO3.out⟩
          case measure => simp [intOf]

set_option maxRecDepth 100000 in
theorem a2Entries_any (A : Option Addr) (n c : Nat) (bs : List Int) (w : World) (h : Reads w w.heap.size 1 A n (byts bs)) (hb : ∀ x ∈ bs, Byt x) (hn : n ≤ 9223372036854775807) :
    Calls Tryd.prog 14 #[.slice A n c] w fun e w' => EnsDrawn w e w' := by
  have HH := Lib.hid h
  have HB := Lib.hid hb
  clear h hb
  go_enter Tryd.func14, Tryd.ntmps14
  go_wp2_with fail
  refine (l00From_any A n c bs _ HH.out HB.out hn).mono ?_
  rintro e w1 ⟨rfl, s1, b1, z1⟩
  go_wp2_with fail
  refine (l27Entries_any _ 0 _ s1 (by omega)).mono ?_
  rintro e w2 ⟨l, A', d, rfl, hl, hok, hup, sl, s2, o2⟩
  have HOK := Lib.hid hok
  have HUP := Lib.hid hup
  clear hok hup
  go_wp2
  go_ret
  exact ⟨l, A', d, rfl, hl, HOK.out, HUP.out, sl.wide (by omega) (Nat.le_refl _), b1.trans (o2.below (Nat.le_refl _) (by omega))⟩
theorem a2Long_any (A : Option Addr) (n c : Nat) (A' : Option Addr) (n' c' : Nat) (w : World) (hn : n ≤ 9223372036854775807) (hn' : n' ≤ 9223372036854775807) :
    Calls Tryd.prog 13 #[.slice A n c, .slice A' n' c'] w fun e w' => e = .returned (.bool (decide (3000 < n) || decide (3000 < n'))) ∧ w = w' := by
  by_cases h : 3000 < n
  · rw [decide_eq_true h]
    go_enter Tryd.func13, Tryd.ntmps13
    go_wp2
    go_ret
    exact ⟨ret_bool (by simp <;> omega), rfl⟩
  · have h1 : decide (3000 < n) = false := decide_eq_false h
    by_cases h' : 3000 < n'
    · rw [h1, decide_eq_true h']
      go_enter Tryd.func13, Tryd.ntmps13
      go_wp2
      go_ret
      exact ⟨ret_bool (by simp <;> omega), rfl⟩
    · have h2 : decide (3000 < n') = false := decide_eq_false h'
      rw [h1, h2]
      go_enter Tryd.func13, Tryd.ntmps13
      go_wp2
      go_ret
      exact ⟨ret_bool (by simp <;> omega), rfl⟩
def addTo (xs : List Int) : Nat → Int
  | 0 => 0
  | k + 1 => addTo xs k + xs.getD k 0
theorem addTo_step {xs : List Int} {k : Nat} {x : Int} (h : xs[k]? = some x) : addTo xs (k + 1) = addTo xs k + x := by simp [addTo, List.getD, h]
theorem addTo_bd {xs : List Int} {b : Int} (hb : 0 ≤ b) (h : ∀ x ∈ xs, -b ≤ x ∧ x ≤ b) (k : Nat) : -(b * k) ≤ addTo xs k ∧ addTo xs k ≤ b * k := by
  induction k with
  | zero => simp [addTo]
  | succ k ih =>
    have h1 : -b ≤ xs.getD k 0 ∧ xs.getD k 0 ≤ b := by
      rcases hx : xs[k]? with _ | z
      · simp [List.getD, hx]; omega
      · simp only [List.getD, hx, Option.getD_some]; exact h z (List.mem_of_getElem? hx)
    rw [addTo, Int.natCast_succ, Int.mul_add, Int.mul_one]
    generalize b * (k : Int) = t at ih ⊢
    omega
theorem a2Sum_any (A : Option Addr) (n c B : Nat) (xs : List Int) (w : World) (h : Reads w B 1 A n (ints xs)) (hn : n ≤ 1048576) (hb : ∀ x ∈ xs, -1000000000000 ≤ x ∧ x ≤ 1000000000000) :
    Calls Tryd.prog 18 #[.slice A n c] w fun e w' => e = .returned (.int .i64 (addTo xs n)) ∧ w = w' := by
  have HB := Lib.hid hb
  clear hb
  go_enter Tryd.func18, Tryd.ntmps18
  go_wp2
  go_loop [3, 4] (fun s i => ∃ k : Nat, k ≤ n ∧ i = .int .i64 k ∧ s = .int .i64 (addTo xs k)) (fun _ i => n - (intOf i).toNat)
  case atStart => exact ⟨0, Nat.zero_le _, rfl, rfl⟩
  case round =>
    obtain ⟨k, hk, rfl, rfl⟩ := hrel
    by_cases hlt : k < n
    · obtain ⟨x, b, off, he, rfl, hb, c0⟩ := int_at h hlt
      have hx := HB.out x (List.mem_of_getElem? he)
      have hs := addTo_bd (by omega) HB.out k
      have HS := Lib.hid (addTo_step he)
      clear he h
      generalize addTo xs k = s at *
      go_wp2
      go_round
      case rel => exact ⟨k + 1, by omega, by go_num, by rw [HS.out]⟩
      case measure => simp [intOf]; omega
    · obtain rfl : k = n := by omega
      go_wp2
      go_ret
      exact ⟨rfl, rfl⟩
end Go.Proofs.YtjmlcobbjpmjpaaDoor
