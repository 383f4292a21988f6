/- Clients: a client found by name. -/
import Derived.Test.YtnlghcpidlpfkaaClC
set_option linter.unusedVariables false
namespace Go.Proofs.Ytnlghcpidlpfkaa
open Go.RowKit

/-! ### The order of names -/
theorem bytesLt : ∀ (x y : List UInt8), Op.bytesLess x y = decide (x < y)
  | [], [] => by simp [Op.bytesLess]
  | _ :: _, [] => by simp [Op.bytesLess]
  | [], _ :: _ => by simp [Op.bytesLess]
  | a :: x, b :: y => by
    rw [Op.bytesLess, bytesLt x y]
    simp only [List.cons_lt_cons_iff]
    by_cases h1 : a < b <;> by_cases h2 : a = b <;> by_cases h3 : x < y <;> simp [h1, h2, h3]
theorem sless_trans {a b c : ByteArray} (h : sless a b = true) (k : sless b c = true) : sless a c = true := by
  simp only [sless, bytesLt, decide_eq_true_eq] at *
  exact List.lt_trans h k
theorem sless_ne {a b : ByteArray} (h : sless a b = true) : (a.toList == b.toList) = false := by
  simp only [sless, bytesLt, decide_eq_true_eq] at h
  rw [beq_eq_false_iff_ne]
  intro e
  rw [e] at h
  exact List.lt_irrefl _ h
theorem sless_eq {a b c : ByteArray} (h : sless a b = true) (e : (b.toList == c.toList) = true) : sless a c = true := by
  have e' : b.toList = c.toList := by simpa using e
  simp only [sless] at *
  rw [← e']
  exact h
theorem okCls_up {l : List Cl} (h : okCls l = true) {i : Nat} {x : Cl} (hx : l[i]? = some x) : ∀ (d : Nat) (y : Cl), l[i + 1 + d]? = some y → sless x.name y.name = true := by
  intro d
  induction d with
  | zero => intro y hy; exact okCls_next h hx hy
  | succ d ih =>
    intro y hy
    have hi : i + 1 + d < l.length := by have := (List.getElem?_eq_some_iff.1 hy).1; omega
    exact sless_trans (ih _ (List.getElem?_eq_getElem hi)) (okCls_next h (List.getElem?_eq_getElem hi) hy)
/-- i is where s stands or would stand. -/
def PlaceAt (l : List Cl) (s : ByteArray) (i : Nat) : Prop := i ≤ l.length ∧ ∀ (k : Nat) (x : Cl), l[k]? = some x → (sless x.name s = true ↔ k < i)
def hit (s : ByteArray) (x : Cl) : Bool := x.name.toList == s.toList
def foundAt (l : List Cl) (s : ByteArray) (i : Nat) : Bool := match l[i]? with
  | none => false
  | some x => hit s x
def placeOf (l : List Cl) (s : ByteArray) : Int := idxI (hit s) l
theorem placeAt_found {l : List Cl} {s : ByteArray} {i : Nat} (hp : PlaceAt l s i) (hf : foundAt l s i = true) : placeOf l s = i := by
  unfold foundAt at hf
  rcases hx : l[i]? with _ | x
  · rw [hx] at hf; cases hf
  · rw [hx] at hf
    refine idxI_found hx hf (fun j y hj hy => ?_)
    have := sless_ne ((hp.2 j y hy).2 hj)
    simp [hit, this]
theorem placeAt_lost {l : List Cl} {s : ByteArray} {i : Nat} (hok : okCls l = true) (hp : PlaceAt l s i) (hf : foundAt l s i = false) : placeOf l s = -1 := by
  refine idxI_none (k := l.length) (fun j y hj hy => ?_) rfl
  rcases Nat.lt_trichotomy j i with h | h | h
  · have := sless_ne ((hp.2 j y hy).2 h)
    simp [hit, this]
  · subst h
    simp only [foundAt, hy] at hf
    simp [hf]
  · rcases hh : hit s y with _ | _
    · simp [hh]
    · exfalso
      have hi : i < l.length := by omega
      obtain ⟨d, rfl⟩ : ∃ d, j = i + 1 + d := ⟨j - i - 1, by omega⟩
      have h1 := okCls_up hok (List.getElem?_eq_getElem hi) d y hy
      have h2 := sless_eq h1 hh
      have := (hp.2 i _ (List.getElem?_eq_getElem hi)).1 h2
      omega
theorem placeOf_range {l : List Cl} {s : ByteArray} (h : ¬ placeOf l s < 0) : ∃ i x, placeOf l s = (i : Nat) ∧ l[i]? = some x := by
  unfold placeOf idxI at h ⊢
  rcases hx : l.findIdx? (hit s) with _ | i
  · simp [hx] at h
  · refine ⟨i, l[i]'(by have := (List.findIdx?_eq_some_iff_getElem.1 hx).1; omega), by simp, List.getElem?_eq_getElem _⟩

theorem l24Find_any (A : Option Addr) (n c : Nat) (l : List Cl) (s : ByteArray) (B : Nat) (w : World) (h : Reads w B 5 A n (cls l)) (hn : n ≤ 1048576) :
    Calls Try.prog 99 #[.slice A n c, .string s] w fun e w' => e = .returned (.int .i64 (placeOf l s)) ∧ w = w' := by
  have hl := Lib.hid (cls_len h)
  go_enter Try.func99, Try.ntmps99
  go_wp2
  go_loop [5] (fun i => ∃ k : Nat, k ≤ n ∧ i = .int .i64 k ∧ AllTo (fun x => !hit s x) l k) (fun i => n - (intOf i).toNat)
  case atStart => exact ⟨0, Nat.zero_le _, rfl, AllTo.zero _ _⟩
  case round =>
    obtain ⟨k, hk, rfl, hall⟩ := hrel
    have HA := Lib.hid hall
    clear hall
    by_cases hlt : k < n
    · obtain ⟨x, b, off, he, rfl, hb, c0, c1, c2, c3, c4⟩ := cl_at h hlt
      have HE := Lib.hid he
      clear he h
      rcases hh : (x.name.toList == s.toList) with _ | _
      · go_wp2
        go_round
        case rel => exact ⟨k + 1, by omega, by go_num, HA.out.step HE.out (by simp [hit, hh])⟩
        case measure => simp [intOf]; omega
      · have HO := Lib.hid (show placeOf l s = k from idxI_found HE.out hh HA.out)
        go_wp2
        go_ret
        exact ⟨ret_int HO.out.symm, rfl⟩
    · obtain rfl : k = n := by omega
      have HO := Lib.hid (show placeOf l s = -1 from idxI_none HA.out hl.out)
      go_wp2
      go_ret
      exact ⟨ret_int HO.out.symm, rfl⟩

def cmpS (a b : ByteArray) : Int := if Op.bytesLess a.toList b.toList = true then -1 else if (a.toList == b.toList) = true then 0 else 1
theorem isNaN_any (a : ByteArray) (w : World) : Calls Try.prog 227 #[.string a] w fun e w' => e = .returned (.bool false) ∧ w = w' := by
  have h : (a.toList == a.toList) = true := by simp
  go_enter Try.func227, Try.ntmps227
  go_wp2
  go_ret
  exact ⟨by simp, rfl⟩
theorem cmpCompare_any (a b : ByteArray) (w : World) : Calls Try.prog 189 #[.string a, .string b] w fun e w' => e = .returned (.int .i64 (cmpS a b)) ∧ w = w' := by
  rcases h1 : Op.bytesLess a.toList b.toList with _ | _
  · rcases h2 : (a.toList == b.toList) with _ | _
    · have HO := Lib.hid (show cmpS a b = 1 by simp [cmpS, h1, h2])
      go_enter Try.func189, Try.ntmps189
      go_wp2_with (go_at_call 227; refine (isNaN_any _ _).mono ?_; rintro e w2 ⟨rfl, rfl⟩)
      go_ret
      exact ⟨ret_int HO.out.symm, rfl⟩
    · have HO := Lib.hid (show cmpS a b = 0 by simp [cmpS, h1, h2])
      go_enter Try.func189, Try.ntmps189
      go_wp2_with (go_at_call 227; refine (isNaN_any _ _).mono ?_; rintro e w2 ⟨rfl, rfl⟩)
      go_ret
      exact ⟨ret_int HO.out.symm, rfl⟩
  · have HO := Lib.hid (show cmpS a b = -1 by simp [cmpS, h1])
    go_enter Try.func189, Try.ntmps189
    go_wp2_with (go_at_call 227; refine (isNaN_any _ _).mono ?_; rintro e w2 ⟨rfl, rfl⟩)
    go_ret
    exact ⟨ret_int HO.out.symm, rfl⟩
theorem place1_any (x : Cl) (s : ByteArray) (w : World) : Calls Try.prog 188 #[.agg #[.string x.name, .int .i64 x.station, .int .i64 x.from_, .int .i64 x.to_, .int .i64 x.quota], .string s] w fun e w' => e = .returned (.int .i64 (cmpS x.name s)) ∧ Below w.heap.size w w' := by
  go_enter Try.func188, Try.ntmps188
  go_wp2_with (go_at_call 189; refine (cmpCompare_any _ _ _).mono ?_; rintro e w2 ⟨rfl, rfl⟩)
  go_ret
  exact ⟨rfl, (Below.refl _ _).alloc (Nat.le_refl _) _⟩
theorem cmpS_lt {a b : ByteArray} : cmpS a b < 0 ↔ sless a b = true := by
  unfold cmpS sless
  split
  · rename_i h; simp [h]
  · rename_i h; split <;> simp [h]
theorem cmpS_zero {a b : ByteArray} (h : ¬ cmpS a b < 0) : (cmpS a b == 0) = (a.toList == b.toList) := by
  rw [cmpS_lt] at h
  unfold sless at h
  unfold cmpS
  rw [if_neg h]
  rcases (a.toList == b.toList) with _ | _ <;> simp
end Go.Proofs.Ytnlghcpidlpfkaa
