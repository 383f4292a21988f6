/- What the law of the quotas asks of the answers, without the program; a word looked for in a list. -/
import Derived.Test.YtnlghcpidlpfkaaClE
import Derived.Test.YtnlghcpidlpfkaaClJ
import Derived.Test.YtnlghcpidlpfkaaClL
import Derived.Test.YtnlghcpidlpfkaaClM
import Derived.Test.YtnlghcpidlpfkaaStrS
set_option linter.unusedVariables false
set_option linter.unusedSimpArgs false
namespace Go.Proofs.Ytnlghcpidlpfkaa
open Go.RowKit

theorem left_pos (l : List Cl) (s : ByteArray) (d u : Int) : 0 ≤ (leftF l s d u).1 := by
  unfold leftF
  split
  · split
    · exact Int.le_refl _
    · split
      · unfold pos0; simp only; split <;> omega
      · exact Int.le_refl _
  · exact Int.le_refl _
theorem cl_inj {l : List Cl} (h : okCls l = true) {i j : Nat} {x y : Cl} (hx : l[i]? = some x) (hy : l[j]? = some y) (e : (x.name.toList == y.name.toList) = true) : i = j := by
  rcases Nat.lt_trichotomy i j with hlt | he | hlt
  · have := sless_ne (okCls_up h hx (j - i - 1) y (by rw [show i + 1 + (j - i - 1) = j by omega]; exact hy))
    rw [this] at e; simp at e
  · exact he
  · have := sless_ne (okCls_up h hy (i - j - 1) x (by rw [show j + 1 + (i - j - 1) = i by omega]; exact hx))
    rw [beq_iff_eq] at e
    rw [e] at this; simp at this
def hasW (xs : List ByteArray) (t : ByteArray) : Bool := xs.any fun y => y.toList == t.toList
theorem hasW_names {p : Cl → Bool} {l : List Cl} {i : Nat} {x : Cl} (h : okCls l = true) (hx : l[i]? = some x) : hasW (namesTo p l l.length) x.name = p x := by
  unfold hasW namesTo
  rw [List.take_length]
  rcases hp : p x with _ | _
  · rw [List.any_eq_false]
    intro t ht
    obtain ⟨y, hy, rfl⟩ := List.mem_map.1 ht
    obtain ⟨hy1, hy2⟩ := List.mem_filter.1 hy
    obtain ⟨j, hj, rfl⟩ := List.mem_iff_getElem.1 hy1
    intro e
    have hyj := List.getElem?_eq_getElem hj
    obtain rfl := cl_inj h hyj hx e
    rw [hyj] at hx
    injection hx with hx
    rw [hx, hp] at hy2
    exact absurd hy2 (by simp)
  · rw [List.any_eq_true]
    exact ⟨x.name, List.mem_map.2 ⟨x, List.mem_filter.2 ⟨List.mem_of_getElem? hx, hp⟩, rfl⟩, by simp⟩
theorem ends_zero {l : List Cl} {a b : Int} (h : (endsBetweenF l a b).2 = 0) : okCls l = true ∧ (endsBetweenF l a b).1 = namesTo (fun y => inR y.to_ a b) l l.length := by
  rcases h1 : okCls l with _ | _
  · rw [endsBetweenF_bad h1] at h; simp at h
  · rcases h2 : (inR a 0 20000 && inR b a 20000) with _ | _
    · rw [endsBetweenF_day h1 h2] at h; simp at h
    · rw [endsBetweenF_ok h1 h2]; exact ⟨rfl, rfl⟩
theorem quota_zero {l : List Cl} {st d : Int} (h : (quotaF l st d).2 = 0) : okCls l = true ∧ inR st 0 9 = true ∧ inR d 0 20000 = true ∧ quotaF l st d = (quotaSum l st d, 0) := by
  rcases h1 : okCls l with _ | _
  · rw [quotaF_bad h1] at h; simp at h
  · rcases h2 : inR st 0 9 with _ | _
    · rw [quotaF_st h1 h2] at h; simp at h
    · rcases h3 : inR d 0 20000 with _ | _
      · rw [quotaF_day h1 h2 h3] at h; simp at h
      · exact ⟨rfl, rfl, rfl, quotaF_ok h1 h2 h3⟩
theorem bestQ_max (f : Int → Int) : ∀ (k j : Nat), j < k → f j ≤ f (bestTo f k)
  | 0, j, h => by omega
  | k + 1, j, h => by
    rw [bestTo]
    by_cases hj : j = k
    · subst hj; split <;> omega
    · have := bestQ_max f k j (by omega)
      split <;> omega
theorem bestQ_lt (f : Int → Int) : bestTo f 10 ≤ 9 := by
  rw [show (10 : Nat) = 9 + 1 from rfl, bestTo]
  have := bestTo_bd f 9
  split <;> omega
/-- What the answers of BusiestStation say of the quota of any station. -/
structure BusyAt (l : List Cl) (st d b : Int) : Prop where
  b0 : 0 ≤ b
  b9 : b ≤ 9
  q : quotaF l b d = (quotaSum l b d, 0)
  pos : 0 < quotaSum l b d
  most : quotaSum l st d ≤ quotaSum l b d
  hi : quotaSum l b d ≤ 30000
theorem busy_cases {l : List Cl} {st d : Int} (h1 : okCls l = true) (h2 : inR st 0 9 = true) (h3 : inR d 0 20000 = true) :
    ∃ b c : Int, busyF l d = (b, c) ∧ (c ≠ 0 → quotaSum l st d = 0) ∧ (c = 0 → BusyAt l st d b) := by
  have hs := inR_true.1 h2
  obtain ⟨j, rfl⟩ := Int.eq_ofNat_of_zero_le hs.1
  have hm := bestQ_max (fun s => quotaSum l s d) 10 j (by omega)
  have h0 := (quotaSum_bd h1 (j : Int) d)
  have hb := bestTo_bd (fun s => quotaSum l s d) 10
  have hb2 := bestQ_lt (fun s => quotaSum l s d)
  by_cases h4 : quotaSum l (bestTo (fun s => quotaSum l s d) 10) d = 0
  · refine ⟨0, 3, busyF_none h1 h3 h4, fun _ => ?_, fun h => by simp at h⟩
    omega
  · refine ⟨_, 0, busyF_some h1 h3 h4, fun h => absurd rfl h, fun _ => ?_⟩
    have h5 := quotaSum_bd h1 (bestTo (fun s => quotaSum l s d) 10) d
    exact ⟨hb.1, hb2, quotaF_ok h1 (inR_true.2 ⟨hb.1, hb2⟩) h3, by omega, hm, h5.2⟩

theorem f6word_any (A : Option Addr) (n c B : Nat) (l : List ByteArray) (x : ByteArray) (w : World) (h : Reads w B 1 A n (strs l)) (hn : n ≤ 1048576) :
    Calls Try.prog 86 #[.slice A n c, .string x] w fun e w' => e = .returned (.bool (hasW l x)) ∧ w = w' := by
  have HL := Lib.hid (strs_len h)
  go_enter Try.func86, Try.ntmps86
  go_wp2
  go_loop [5] (fun i => ∃ k : Nat, k ≤ n ∧ i = .int .i64 k ∧ AllTo (fun y : ByteArray => !(y.toList == x.toList)) l k) (fun i => n - (intOf i).toNat)
  case atStart => exact ⟨0, Nat.zero_le _, rfl, AllTo.zero _ _⟩
  case round =>
    obtain ⟨k, hk, rfl, hall⟩ := hrel
    have HA := Lib.hid hall
    clear hall
    by_cases hlt : k < n
    · obtain ⟨y, b, off, he, rfl, hb, c0⟩ := str_at h hlt
      have HE := Lib.hid he
      clear he
      rcases hy : (y.toList == x.toList) with _ | _
      · have HY := Lib.hid hy
        go_wp2
        go_round
        case rel => exact ⟨k + 1, by omega, by go_num, HA.out.step HE.out (by rw [HY.out]; rfl)⟩
        case measure => simp [intOf]; omega
      · have HY := Lib.hid (show hasW l x = true from any_of (p := fun z : ByteArray => z.toList == x.toList) HE.out hy)
        go_wp2
        go_ret
        exact ⟨ret_bool HY.out.symm, rfl⟩
    · obtain rfl : k = n := by omega
      have HY := Lib.hid (show hasW l x = false from any_none (p := fun z : ByteArray => z.toList == x.toList) HA.out HL.out)
      go_wp2
      go_ret
      exact ⟨ret_bool HY.out.symm, rfl⟩
end Go.Proofs.Ytnlghcpidlpfkaa
