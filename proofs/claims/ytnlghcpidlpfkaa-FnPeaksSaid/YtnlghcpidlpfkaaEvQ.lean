/- Events: the difference of two days. -/
import Derived.Test.YtnlghcpidlpfkaaEvE
import Derived.Test.YtnlghcpidlpfkaaI64
set_option linter.unusedVariables false
namespace Go.Proofs.Ytnlghcpidlpfkaa
open Go.RowKit

def absI (d : Int) : Int := if d < 0 then -d else d
theorem absI_neg {d : Int} (h : d < 0) : absI d = -d := by simp [absI, h]
theorem absI_pos {d : Int} (h : 0 ≤ d) : absI d = d := by unfold absI; rw [if_neg (by omega)]
theorem absI_bd {d b : Int} (h1 : -b ≤ d) (h2 : d ≤ b) : 0 ≤ absI d ∧ absI d ≤ b := by unfold absI; split <;> omega
def dSum (xs ys : List Int) : Nat → Int
  | 0 => 0
  | k + 1 => dSum xs ys k + absI (xs.getD k 0 - ys.getD k 0)
theorem dSum_step {xs ys : List Int} {k : Nat} {x y : Int} (hx : xs[k]? = some x) (hy : ys[k]? = some y) : dSum xs ys (k + 1) = dSum xs ys k + absI (x - y) := by
  simp [dSum, List.getD, hx, hy]
theorem dSum_bd {xs ys : List Int} {b : Int} (hb : 0 ≤ b) (hx : ∀ x ∈ xs, 0 ≤ x ∧ x ≤ b) (hy : ∀ y ∈ ys, 0 ≤ y ∧ y ≤ b) (k : Nat) : 0 ≤ dSum xs ys k ∧ dSum xs ys k ≤ b * k := by
  have get : ∀ (zs : List Int), (∀ z ∈ zs, 0 ≤ z ∧ z ≤ b) → ∀ i : Nat, 0 ≤ zs.getD i 0 ∧ zs.getD i 0 ≤ b := by
    intro zs hz i
    rcases h : zs[i]? with _ | z
    · simp [List.getD, h]; omega
    · simp only [List.getD, h, Option.getD_some]; exact hz z (List.mem_of_getElem? h)
  induction k with
  | zero => simp [dSum]
  | succ k ih =>
    have h1 := get xs hx k
    have h2 := get ys hy k
    have h3 := absI_bd (b := b) (d := xs.getD k 0 - ys.getD k 0) (by omega) (by omega)
    rw [dSum, Int.natCast_succ, Int.mul_add, Int.mul_one]
    generalize b * (k : Int) = t at ih ⊢
    omega
def cmpDays (a b : List Ev) : Int × Int := if okEv a && okEv b then (dSum (hoursOf a) (hoursOf b) 24, 0) else (0, 1)
theorem cmpDays_ok {a b : List Ev} (h1 : okEv a = true) (h2 : okEv b = true) : cmpDays a b = (dSum (hoursOf a) (hoursOf b) 24, 0) := by simp [cmpDays, h1, h2]
theorem cmpDays_bad1 {a b : List Ev} (h1 : okEv a = false) : cmpDays a b = (0, 1) := by simp [cmpDays, h1]
theorem cmpDays_bad2 {a b : List Ev} (h1 : okEv b = false) : cmpDays a b = (0, 1) := by simp [cmpDays, h1]

theorem hours_bd {l : List Ev} (h : okEv l = true) : ∀ x ∈ hoursOf l, 0 ≤ x ∧ x ≤ 200 := fun x hx => by
  have h1 := histOf_bound _ 24 l x hx
  have h2 := okEv_len h
  omega
theorem hours_len (l : List Ev) : (hoursOf l).length = 24 := histOf_length _ _ _

theorem l00Size_any (d : Int) (w : World) (h1 : -1000000000000000000 ≤ d) (h2 : d ≤ 1000000000000000000) : Calls Try.prog 164 #[.int .i64 d] w fun e w' => e = .returned (.int .i64 (absI d)) ∧ w = w' := by
  by_cases h : d < 0
  · go_enter Try.func164, Try.ntmps164
    go_wp2
    go_ret
    exact ⟨ret_int (absI_neg h).symm, rfl⟩
  · go_enter Try.func164, Try.ntmps164
    go_wp2
    go_ret
    exact ⟨ret_int (absI_pos h).symm, rfl⟩
theorem apart_any (a b : Int) (w : World) (h1 : -1000000000000000000 ≤ a) (h2 : a ≤ 1000000000000000000) (h3 : -1000000000000000000 ≤ b) (h4 : b ≤ 1000000000000000000) :
    Calls Try.prog 163 #[.int .i64 a, .int .i64 b] w fun e w' => e = .returned (.int .i64 (absI (a - b))) ∧ w = w' := by
  by_cases h : a - b < 0
  · go_enter Try.func163, Try.ntmps163
    go_wp2
    go_ret
    exact ⟨ret_int (by rw [absI_neg h]; omega), rfl⟩
  · go_enter Try.func163, Try.ntmps163
    go_wp2
    go_ret
    exact ⟨ret_int (by rw [absI_pos h]), rfl⟩

theorem specCompareDays_any (A : Option Addr) (n c : Nat) (l : List Ev) (A' : Option Addr) (n' c' : Nat) (l' : List Ev) (B : Nat) (w : World) (h : Reads w B 2 A n (evs l)) (h' : Reads w B 2 A' n' (evs l')) (hB : B ≤ w.heap.size) (hn : n ≤ 1048576) (hn' : n' ≤ 1048576) :
    Calls Try.prog 66 #[.slice A n c, .slice A' n' c'] w fun e w' => e = .returned (.tuple #[.int .i64 (cmpDays l l').1, .int .i64 (cmpDays l l').2]) ∧ Below w.heap.size w w' := by
  by_cases hok : okEv l = true
  · by_cases hok' : okEv l' = true
    · have HO := Lib.hid hok
      have HO' := Lib.hid hok'
      go_enter Try.func66, Try.ntmps66
      go_wp2_with fail
      refine (l26Ok_any _ _ _ _ _ _ h hn).mono ?_
      rintro e w' ⟨rfl, rfl⟩
      go_wp2_with fail
      refine (l26Ok_any _ _ _ _ _ _ h' hn').mono ?_
      rintro e w' ⟨rfl, rfl⟩
      go_wp2_with fail
      clear hok hok'
      refine (l26Hours_any _ _ _ _ l _ h hB HO.out).mono ?_
      rintro e w1 ⟨g1, rfl, s1, b1⟩
      go_wp2_with fail
      refine (l26Hours_any _ _ _ _ l' _ (h'.on hB b1) (Nat.le_trans hB b1.size) HO'.out).mono ?_
      rintro e w2 ⟨g2, rfl, s2, b2⟩
      go_wp2
      have HB := Lib.hid (bnext b1 b2 (Nat.le_refl _))
      have R1 := (s1.on b2).reads b2.size
      have R2 := s2.reads (Nat.le_refl _)
      clear s1 s2 b1 b2 h h'
      go_loopw [8, 9] (fun s i wr => ∃ k : Nat, k ≤ 24 ∧ i = .int .i64 k ∧ s = .int .i64 (dSum (hoursOf l) (hoursOf l') k) ∧ Below w2.heap.size w2 wr) (fun _ i _ => 24 - (intOf i).toNat)
      case atStart => exact ⟨0, Nat.zero_le _, rfl, rfl, Below.refl _ _⟩
      case round =>
        obtain ⟨k, hk, rfl, rfl, hbel⟩ := hrel
        have HBe := Lib.hid hbel
        have hsum := dSum_bd (by omega) (hours_bd HO.out) (hours_bd HO'.out) k
        by_cases hlt : k < 24
        · obtain ⟨x, b, off, he, e1, hb, c0⟩ := int_at (R1.on (Nat.le_refl _) hbel) hlt
          obtain ⟨y, b', off', he', e2, hb', c1⟩ := int_at (R2.on (Nat.le_refl _) hbel) hlt
          injection e1 with e1; injection e1 with e1 e1'; subst e1; subst e1'
          injection e2 with e2; injection e2 with e2 e2'; subst e2; subst e2'
          simp only [Nat.zero_add] at c0 c1
          have hx := hours_bd HO.out x (List.mem_of_getElem? he)
          have hy := hours_bd HO'.out y (List.mem_of_getElem? he')
          have hab := absI_bd (d := x - y) (b := 200) (by omega) (by omega)
          have HS := Lib.hid (dSum_step he he')
          clear he he' hbel
          generalize hS : dSum (hoursOf l) (hoursOf l') k = S at *
          have HSS := Lib.hid hS
          clear hS
          have w1 : IntKind.i64.wrap (x - y) = x - y := IntWalk.i64_in _ (by omega)
          have w2' : IntKind.i64.wrap (S + absI (x - y)) = S + absI (x - y) := IntWalk.i64_in _ (by omega)
          have hk0 : (0 : Int) ≤ k := by omega
          have hk1 : (k : Int) < 24 := by omega
          go_wp2_with fail
          go_quiet ((go_at_call 164; exact Calls.quiet_of_same ((l00Size_any _ _ (by omega) (by omega)).mono fun _ _ hh => ⟨hh.1, hh.2.symm⟩)))
          clear w1 w2'
          go_wp2
          go_roundw
          case rel => exact ⟨k + 1, by omega, by go_num, by rw [HS.out], below_drewN HBe.out _⟩
          case measure => simp [intOf]; omega
        · obtain rfl : k = 24 := by omega
          go_wp2
          go_ret2
          rw [cmpDays_ok HO.out HO'.out]
          exact ⟨rfl, bnext HB.out HBe.out (Nat.le_refl _)⟩
    · have hok' : okEv l' = false := by simpa using hok'
      have HO' := Lib.hid hok'
      go_enter Try.func66, Try.ntmps66
      go_wp2_with fail
      refine (l26Ok_any _ _ _ _ _ _ h hn).mono ?_
      rintro e w' ⟨rfl, rfl⟩
      go_wp2_with fail
      refine (l26Ok_any _ _ _ _ _ _ h' hn').mono ?_
      rintro e w' ⟨rfl, rfl⟩
      go_wp2
      go_ret2
      rw [cmpDays_bad2 HO'.out]
      exact ⟨rfl, Below.refl _ _⟩
  · have hok : okEv l = false := by simpa using hok
    have HO := Lib.hid hok
    go_enter Try.func66, Try.ntmps66
    go_wp2_with fail
    refine (l26Ok_any _ _ _ _ _ _ h hn).mono ?_
    rintro e w' ⟨rfl, rfl⟩
    go_wp2
    go_ret2
    rw [cmpDays_bad1 HO.out]
    exact ⟨rfl, Below.refl _ _⟩

theorem implCompareDays_any (A : Option Addr) (n c : Nat) (l : List Ev) (A' : Option Addr) (n' c' : Nat) (l' : List Ev) (B : Nat) (w : World) (h : Reads w B 2 A n (evs l)) (h' : Reads w B 2 A' n' (evs l')) (hB : B ≤ w.heap.size) (hn : n ≤ 1048576) (hn' : n' ≤ 1048576) :
    Calls Try.prog 65 #[.slice A n c, .slice A' n' c'] w fun e w' => e = .returned (.tuple #[.int .i64 (cmpDays l l').1, .int .i64 (cmpDays l l').2]) ∧ Below w.heap.size w w' := by
  by_cases hok : okEv l = true
  · by_cases hok' : okEv l' = true
    · have HO := Lib.hid hok
      have HO' := Lib.hid hok'
      go_enter Try.func65, Try.ntmps65
      go_wp2_with fail
      refine (implValidEvents_any _ _ _ _ _ _ h hB hn).mono ?_
      rintro e wa ⟨rfl, ba⟩
      have h' := h'.on hB ba
      have hB := Nat.le_trans hB ba.size
      go_wp2_with fail
      refine (implValidEvents_any _ _ _ _ _ _ h' hB hn').mono ?_
      rintro e wb ⟨rfl, bb⟩
      have hbb := bnext ba bb (Nat.le_refl _)
      go_wp2_with fail
      clear hok hok'
      have h := (h.on (Nat.le_trans (Nat.le_refl _) (by assumption)) hbb)
      have hB := Nat.le_trans hB bb.size
      refine (byHour_any _ _ _ _ l' _ (h'.on (by omega) bb) hB HO'.out).mono ?_
      rintro e w1 ⟨g2, rfl, s2, b1⟩
      go_wp2_with fail
      refine (byHour_any _ _ _ _ l _ (h.on hB b1) (Nat.le_trans hB b1.size) HO.out).mono ?_
      rintro e w2 ⟨g1, rfl, s1, b2⟩
      go_wp2
      have HB := Lib.hid (bnext (bnext hbb b1 (Nat.le_refl _)) b2 (Nat.le_refl _))
      have R1 := s1.reads (Nat.le_refl _)
      have R2 := (s2.on b2).reads b2.size
      clear s1 s2 b1 b2 h h'
      go_loopw [6, 23] (fun s i wr => ∃ k : Nat, k ≤ 24 ∧ i = .int .i64 k ∧ s = .int .i64 (dSum (hoursOf l) (hoursOf l') k) ∧ Below w2.heap.size w2 wr) (fun _ i _ => 24 - (intOf i).toNat)
      case atStart => exact ⟨0, Nat.zero_le _, rfl, rfl, Below.refl _ _⟩
      case round =>
        obtain ⟨k, hk, rfl, rfl, hbel⟩ := hrel
        have HBe := Lib.hid hbel
        have hsum := dSum_bd (by omega) (hours_bd HO.out) (hours_bd HO'.out) k
        by_cases hlt : k < 24
        · obtain ⟨x, b, off, he, e1, hb, c0⟩ := int_at (R1.on (Nat.le_refl _) hbel) hlt
          obtain ⟨y, b', off', he', e2, hb', c1⟩ := int_at (R2.on (Nat.le_refl _) hbel) hlt
          injection e1 with e1; injection e1 with e1 e1'; subst e1; subst e1'
          injection e2 with e2; injection e2 with e2 e2'; subst e2; subst e2'
          simp only [Nat.zero_add] at c0 c1
          have hx := hours_bd HO.out x (List.mem_of_getElem? he)
          have hy := hours_bd HO'.out y (List.mem_of_getElem? he')
          have hab := absI_bd (d := x - y) (b := 200) (by omega) (by omega)
          have HS := Lib.hid (dSum_step he he')
          clear he he' hbel
          generalize hS : dSum (hoursOf l) (hoursOf l') k = S at *
          have HSS := Lib.hid hS
          clear hS
          have w1 : IntKind.i64.wrap (x - y) = x - y := IntWalk.i64_in _ (by omega)
          have w2' : IntKind.i64.wrap (S + absI (x - y)) = S + absI (x - y) := IntWalk.i64_in _ (by omega)
          have hk0 : (0 : Int) ≤ k := by omega
          have hk1 : (k : Int) < 24 := by omega
          go_wp2_with fail
          refine (apart_any _ _ _ (by omega) (by omega) (by omega) (by omega)).mono ?_
          rintro e w9 ⟨rfl, rfl⟩
          clear w1 w2'
          go_wp2
          go_roundw
          case rel => exact ⟨k + 1, by omega, by go_num, by rw [HS.out], HBe.out⟩
          case measure => simp [intOf]; omega
        · obtain rfl : k = 24 := by omega
          go_wp2
          go_ret2
          rw [cmpDays_ok HO.out HO'.out]
          exact ⟨rfl, bnext HB.out HBe.out (Nat.le_refl _)⟩
    · have hok' : okEv l' = false := by simpa using hok'
      have HO' := Lib.hid hok'
      go_enter Try.func65, Try.ntmps65
      go_wp2_with fail
      refine (implValidEvents_any _ _ _ _ _ _ h hB hn).mono ?_
      rintro e wa ⟨rfl, ba⟩
      have h' := h'.on hB ba
      have hB := Nat.le_trans hB ba.size
      go_wp2_with fail
      refine (implValidEvents_any _ _ _ _ _ _ h' hB hn').mono ?_
      rintro e wb ⟨rfl, bb⟩
      have hbb := bnext ba bb (Nat.le_refl _)
      go_wp2
      go_ret2
      rw [cmpDays_bad2 HO'.out]
      exact ⟨rfl, hbb⟩
  · have hok : okEv l = false := by simpa using hok
    have HO := Lib.hid hok
    go_enter Try.func65, Try.ntmps65
    go_wp2_with fail
    refine (implValidEvents_any _ _ _ _ _ _ h hB hn).mono ?_
    rintro e wb ⟨rfl, hbb⟩
    go_wp2
    go_ret2
    rw [cmpDays_bad1 HO.out]
    exact ⟨rfl, hbb⟩

end Go.Proofs.Ytnlghcpidlpfkaa
