/- Clients: who is active on a day, and the quota of a station. -/
import Derived.Test.YtnlghcpidlpfkaaClB
set_option linter.unusedVariables false
namespace Go.Proofs.Ytnlghcpidlpfkaa
open Go.RowKit

def csum (f : Cl → Int) (l : List Cl) : Nat → Int
  | 0 => 0
  | k + 1 => csum f l k + (match l[k]? with | none => 0 | some x => f x)
theorem csum_step {f : Cl → Int} {l : List Cl} {k : Nat} {x : Cl} (h : l[k]? = some x) : csum f l (k + 1) = csum f l k + f x := by simp [csum, h]
theorem csum_bd {f : Cl → Int} {l : List Cl} (h : ∀ x ∈ l, 0 ≤ f x ∧ f x ≤ 1000) (k : Nat) : 0 ≤ csum f l k ∧ csum f l k ≤ 1000 * (k : Int) := by
  induction k with
  | zero => simp [csum]
  | succ k ih =>
    rcases hx : l[k]? with _ | z
    · simp only [csum, hx]; omega
    · simp only [csum, hx]; have := h z (List.mem_of_getElem? hx); omega
theorem okCls_len {l : List Cl} (h : okCls l = true) : l.length ≤ 30 := by
  simp only [okCls, Bool.and_eq_true, decide_eq_true_eq] at h
  exact h.2
theorem okCls_row {l : List Cl} (h : okCls l = true) {i : Nat} (hi : i < l.length) : rowCl l i = true := by
  simp only [okCls, Bool.and_eq_true, List.all_eq_true] at h
  exact h.1 i (by simpa using hi)
theorem okCls_mem {l : List Cl} (h : okCls l = true) : ∀ x ∈ l, isName x.name = true ∧ (0 ≤ x.station ∧ x.station ≤ 9) ∧ (0 ≤ x.from_ ∧ x.from_ ≤ 20000) ∧ (x.from_ + 1 ≤ x.to_ ∧ x.to_ ≤ 20000) ∧ (0 ≤ x.quota ∧ x.quota ≤ 1000) := by
  intro x hx
  obtain ⟨i, hi, rfl⟩ := List.mem_iff_getElem.1 hx
  have := okCls_row h hi
  simp only [rowCl, List.getElem?_eq_getElem hi, Bool.and_eq_true] at this
  exact okCl_iff.1 this.1
theorem okCls_next {l : List Cl} (h : okCls l = true) {i : Nat} {x y : Cl} (hx : l[i]? = some x) (hy : l[i + 1]? = some y) : sless x.name y.name = true := by
  have hi : i + 1 < l.length := (List.getElem?_eq_some_iff.1 hy).1
  have := okCls_row h hi
  simp only [rowCl, hy, Bool.and_eq_true, Bool.or_eq_true, decide_eq_true_eq, Nat.add_sub_cancel, hx] at this
  rcases this.2 with h0 | h0
  · omega
  · exact h0

def active (x : Cl) (d : Int) : Bool := inR d x.from_ (x.to_ - 1)
theorem l24Active_any (x : Cl) (d : Int) (b off : Nat) (w : World) (ht : 0 ≤ x.to_ ∧ x.to_ ≤ 20000) (c2 : w.cell? ⟨b, off + 2, none⟩ = some (.int .i64 x.from_)) (c3 : w.cell? ⟨b, off + 3, none⟩ = some (.int .i64 x.to_)) :
    Calls Try.prog 175 #[.pointer (some ⟨b, off, none⟩), .int .i64 d] w fun e w' => e = .returned (.bool (active x d)) ∧ ∃ m, w' = w.drewN m := by
  have hw : IntKind.i64.wrap (x.to_ - 1) = x.to_ - 1 := IntWalk.i64_in _ (by omega)
  go_enter Try.func175, Try.ntmps175
  go_wp2_with fail
  go_quiet ((go_at_call 159; refine Calls.quiet_of_same ((l00In_any _ _ _ _).mono fun _ _ hh => ⟨hh.1, hh.2.symm⟩)))
  go_wp2
  go_ret
  exact ⟨rfl, _, rfl⟩
theorem active_any (x : Cl) (d : Int) (w : World) :
    Calls Try.prog 174 #[.agg #[.string x.name, .int .i64 x.station, .int .i64 x.from_, .int .i64 x.to_, .int .i64 x.quota], .int .i64 d] w fun e w' => e = .returned (.bool (active x d)) ∧ Below w.heap.size w w' := by
  by_cases h1 : x.from_ ≤ d
  · by_cases h2 : d < x.to_
    · have HO := Lib.hid (show active x d = true from inR_true.2 (by omega))
      go_enter Try.func174, Try.ntmps174
      go_wp2
      go_ret
      exact ⟨ret_bool HO.out.symm, (Below.refl _ _).alloc (Nat.le_refl _) _⟩
    · have HO := Lib.hid (show active x d = false by rcases h : active x d with _ | _; (· rfl); (· have := inR_true.1 h; omega))
      have h2' : decide (d < x.to_) = false := decide_eq_false h2
      go_enter Try.func174, Try.ntmps174
      go_wp2
      go_ret
      exact ⟨ret_bool HO.out.symm, (Below.refl _ _).alloc (Nat.le_refl _) _⟩
  · have HO := Lib.hid (show active x d = false by rcases h : active x d with _ | _; (· rfl); (· have := inR_true.1 h; omega))
    have h1' : decide (x.from_ ≤ d) = false := decide_eq_false h1
    go_enter Try.func174, Try.ntmps174
    go_wp2
    go_ret
    exact ⟨ret_bool HO.out.symm, (Below.refl _ _).alloc (Nat.le_refl _) _⟩

def quotaf (st d : Int) (x : Cl) : Int := if (x.station == st && active x d) = true then x.quota else 0
def quotaSum (l : List Cl) (st d : Int) : Int := csum (quotaf st d) l l.length
theorem quotaf_bd {l : List Cl} (h : okCls l = true) (st d : Int) : ∀ x ∈ l, 0 ≤ quotaf st d x ∧ quotaf st d x ≤ 1000 := by
  intro x hx
  have := (okCls_mem h x hx).2.2.2.2
  unfold quotaf
  split <;> omega
theorem quotaSum_bd {l : List Cl} (h : okCls l = true) (st d : Int) : 0 ≤ quotaSum l st d ∧ quotaSum l st d ≤ 30000 := by
  have h1 := csum_bd (quotaf_bd h st d) l.length
  have h2 := okCls_len h
  unfold quotaSum
  omega

set_option maxHeartbeats 2000000 in
theorem l24Quota_any (A : Option Addr) (n c : Nat) (l : List Cl) (st d : Int) (B : Nat) (w : World) (h : Reads w B 5 A n (cls l)) (hB : B ≤ w.heap.size) (hok : okCls l = true) :
    Calls Try.prog 169 #[.slice A n c, .int .i64 st, .int .i64 d] w fun e w' => e = .returned (.int .i64 (quotaSum l st d)) ∧ ∃ m, w' = w.drewN m := by
  have hl := Lib.hid (cls_len h)
  have hn : n ≤ 30 := by have := okCls_len hok; have := hl.out; omega
  have HK := Lib.hid hok
  clear hok
  go_enter Try.func169, Try.ntmps169
  go_wp2
  go_loopw [7, 8] (fun q i wr => ∃ k : Nat, k ≤ n ∧ i = .int .i64 k ∧ q = .int .i64 (csum (quotaf st d) l k) ∧ ∃ m, wr = w.drewN m) (fun _ i _ => n - (intOf i).toNat)
  case atStart => exact ⟨0, Nat.zero_le _, rfl, rfl, ⟨0, rfl⟩⟩
  case round =>
    obtain ⟨k, hk, rfl, rfl, m, rfl⟩ := hrel
    have hbel : Below w.heap.size w (w.drewN m) := below_drewN (Below.refl _ _) m
    by_cases hlt : k < n
    · obtain ⟨x, b, off, he, rfl, hb, c0, c1, c2, c3, c4⟩ := cl_at (h.on hB hbel) hlt
      have hx := okCls_mem HK.out x (List.mem_of_getElem? he)
      have hq := hx.2.2.2.2
      have ht : 0 ≤ x.to_ ∧ x.to_ ≤ 20000 := ⟨by omega, hx.2.2.2.1.2⟩
      have hs := csum_bd (quotaf_bd HK.out st d) k
      have HS := Lib.hid (csum_step (f := quotaf st d) he)
      have hi0 : (0 : Int) ≤ k := by omega
      have hi1 : (k : Int) < n := by omega
      clear he h hbel hx
      generalize csum (quotaf st d) l k = q at *
      rcases hst : (x.station == st) with _ | _
      · have HF := Lib.hid (show quotaf st d x = 0 by simp only [quotaf, hst, Bool.false_and, Bool.false_eq_true, if_false])
        go_wp2
        go_roundw
        case rel => exact ⟨k + 1, by omega, by go_num, by rw [HS.out, HF.out, Int.add_zero], ⟨m, rfl⟩⟩
        case measure => simp [intOf]; omega
      · go_wp2_with fail
        refine (l24Active_any x d b _ _ ht c2 c3).mono ?_
        rintro e w2 ⟨rfl, m2, rfl⟩
        have c4' : (w.drewN (m + m2)).cell? ⟨b, off + k * 5 + 4, none⟩ = some (.int .i64 x.quota) := c4
        have c4w : w.cell? ⟨b, off + k * 5 + 4, none⟩ = some (.int .i64 x.quota) := c4
        rw [World.drewN_drewN]
        clear c0 c1 c2 c3 c4
        rcases hac : active x d with _ | _
        · have HF := Lib.hid (show quotaf st d x = 0 by simp only [quotaf, hst, hac, Bool.and_false, Bool.false_eq_true, if_false])
          go_wp2
          go_roundw
          case rel => exact ⟨k + 1, by omega, by go_num, by rw [HS.out, HF.out, Int.add_zero], ⟨m + m2, rfl⟩⟩
          case measure => simp [intOf]; omega
        · have HF := Lib.hid (show quotaf st d x = x.quota by simp only [quotaf, hst, hac, Bool.and_true, if_true])
          go_wp2
          go_roundw
          case rel => exact ⟨k + 1, by omega, by go_num, by rw [HS.out, HF.out], ⟨m + m2, rfl⟩⟩
          case measure => simp [intOf]; omega
    · obtain rfl : k = n := by omega
      have HF := Lib.hid (show quotaSum l st d = csum (quotaf st d) l k by rw [quotaSum, hl.out])
      go_wp2
      go_ret
      exact ⟨ret_int HF.out.symm, m, rfl⟩

set_option maxHeartbeats 2000000 in
theorem quotaOn_any (A : Option Addr) (n c : Nat) (l : List Cl) (st d : Int) (B : Nat) (w : World) (h : Reads w B 5 A n (cls l)) (hB : B ≤ w.heap.size) (hok : okCls l = true) :
    Calls Try.prog 167 #[.slice A n c, .int .i64 st, .int .i64 d] w fun e w' => e = .returned (.int .i64 (quotaSum l st d)) ∧ Below w.heap.size w w' := by
  have hl := Lib.hid (cls_len h)
  have hn : n ≤ 30 := by have := okCls_len hok; have := hl.out; omega
  have HK := Lib.hid hok
  clear hok
  go_enter Try.func167, Try.ntmps167
  go_wp2
  go_loopw [7, 12] (fun q i wr => ∃ k : Nat, k ≤ n ∧ i = .int .i64 k ∧ q = .int .i64 (csum (quotaf st d) l k) ∧ Below w.heap.size w wr) (fun _ i _ => n - (intOf i).toNat)
  case atStart => exact ⟨0, Nat.zero_le _, rfl, rfl, Below.refl _ _⟩
  case round =>
    obtain ⟨k, hk, rfl, rfl, hbel⟩ := hrel
    have HBe := Lib.hid hbel
    by_cases hlt : k < n
    · obtain ⟨x, b, off, he, rfl, hb, c0, c1, c2, c3, c4⟩ := cl_at (h.on hB hbel) hlt
      have hx := okCls_mem HK.out x (List.mem_of_getElem? he)
      have hq := hx.2.2.2.2
      have ht : 0 ≤ x.to_ ∧ x.to_ ≤ 20000 := ⟨by omega, hx.2.2.2.1.2⟩
      have hs := csum_bd (quotaf_bd HK.out st d) k
      have HS := Lib.hid (csum_step (f := quotaf st d) he)
      have hi0 : (0 : Int) ≤ k := by omega
      have hi1 : (k : Int) < n := by omega
      clear he h hbel hx
      generalize csum (quotaf st d) l k = q at *
      rcases hst : (x.station == st) with _ | _
      · have HF := Lib.hid (show quotaf st d x = 0 by simp only [quotaf, hst, Bool.false_and, Bool.false_eq_true, if_false])
        go_wp2
        go_roundw
        case rel => exact ⟨k + 1, by omega, by go_num, by rw [HS.out, HF.out, Int.add_zero], HBe.out.alloc HBe.out.size _⟩
        case measure => simp [intOf]; omega
      · go_wp2_with fail
        obtain ⟨wq, hwq⟩ : ∃ y, wr.alloc (.cells #[.string x.name, .int .i64 x.station, .int .i64 x.from_, .int .i64 x.to_, .int .i64 x.quota] 31) = y := ⟨_, rfl⟩
        have bx : Blk wq wr.heap.size 31 #[.string x.name, .int .i64 x.station, .int .i64 x.from_, .int .i64 x.to_, .int .i64 x.quota] := by rw [← hwq]; exact Blk.new _ _ _
        have HBq := Lib.hid (show Below w.heap.size w wq by rw [← hwq]; exact HBe.out.alloc HBe.out.size _)
        rw [hwq]
        clear hwq c0 c1 c2 c3 c4
        refine (active_any x d _).mono ?_
        rintro e w2 ⟨rfl, b2⟩
        have q4 := (bx.on b2).cellAt 4 (by simp)
        have HB2 := Lib.hid (bnext HBq.out b2 (Nat.le_refl _))
        clear b2 bx
        rcases hac : active x d with _ | _
        · have HF := Lib.hid (show quotaf st d x = 0 by simp only [quotaf, hst, hac, Bool.and_false, Bool.false_eq_true, if_false])
          go_wp2
          go_roundw
          case rel => exact ⟨k + 1, by omega, by go_num, by rw [HS.out, HF.out, Int.add_zero], HB2.out⟩
          case measure => simp [intOf]; omega
        · have HF := Lib.hid (show quotaf st d x = x.quota by simp only [quotaf, hst, hac, Bool.and_true, if_true])
          go_wp2
          go_roundw
          case rel => exact ⟨k + 1, by omega, by go_num, by rw [HS.out, HF.out], HB2.out⟩
          case measure => simp [intOf]; omega
    · obtain rfl : k = n := by omega
      have HF := Lib.hid (show quotaSum l st d = csum (quotaf st d) l k by rw [quotaSum, hl.out])
      go_wp2
      go_ret
      exact ⟨ret_int HF.out.symm, hbel⟩
end Go.Proofs.Ytnlghcpidlpfkaa
