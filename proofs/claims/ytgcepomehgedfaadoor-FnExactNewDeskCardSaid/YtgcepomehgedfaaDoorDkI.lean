/- Two lists compared element by element; numbers and tubes: sizes, copies, comparisons. -/
import Derived.Test.YtgcepomehgedfaaDoorSTb
import Derived.Test.YtgcepomehgedfaaDoorI64
import Derived.Laws.StructEq
import Derived.Deep.QuietTactic
set_option linter.unusedVariables false
namespace Go.Proofs.YtgcepomehgedfaaDoor
open Go.RowKit

section
variable {α : Type} {p : α → α → Bool} {l l' : List α} {k n : Nat} {x y : α}
def rowS (p : α → α → Bool) (l l' : List α) (i : Nat) : Bool := match l[i]?, l'[i]? with
  | some x, some y => p x y
  | _, _ => false
theorem rowS_at (h : l[k]? = some x) (h' : l'[k]? = some y) : rowS p l l' k = p x y := by simp [rowS, h, h']
def sameL (p : α → α → Bool) (l l' : List α) : Bool := decide (l.length = l'.length) && (List.range l.length).all (rowS p l l')
theorem sameL_bad (h : l[k]? = some x) (h' : l'[k]? = some y) (hp : p x y = false) : sameL p l l' = false := by
  have hk : (List.range l.length)[k]? = some k := by simp [(List.getElem?_eq_some_iff.1 h).1]
  simp only [sameL, all_bad hk ((rowS_at h h').trans hp), Bool.and_false]
theorem sameL_len (h : ¬ l.length = l'.length) : sameL p l l' = false := by simp [sameL, h]
def AllS (p : α → α → Bool) (l l' : List α) (k : Nat) : Prop := AllTo (rowS p l l') (List.range l.length) k
theorem AllS.zero (p : α → α → Bool) (l l' : List α) : AllS p l l' 0 := AllTo.zero _ _
theorem AllS.step (h : AllS p l l' k) (h1 : l[k]? = some x) (h2 : l'[k]? = some y) (hp : p x y = true) : AllS p l l' (k + 1) := by
  have hk : (List.range l.length)[k]? = some k := by simp [(List.getElem?_eq_some_iff.1 h1).1]
  exact AllTo.step h hk ((rowS_at h1 h2).trans hp)
theorem AllS.done (h : AllS p l l' k) (hl : l.length = k) (hl' : l'.length = k) : sameL p l l' = true := by
  have h1 : (List.range l.length).all (rowS p l l') = true := AllTo.done h (by simpa using hl)
  simp only [sameL, h1, Bool.and_true, decide_eq_true_eq]; omega
theorem sameL_refl (hp : ∀ x, p x x = true) (l : List α) : sameL p l l = true := by
  simp only [sameL, Bool.and_eq_true, List.all_eq_true]
  refine ⟨by simp, fun i hi => ?_⟩
  have hi' : i < l.length := by simpa using hi
  rw [rowS_at (List.getElem?_eq_getElem hi') (List.getElem?_eq_getElem hi')]
  exact hp _
end
def sameI (x y : Int) : Bool := x == y
def sameTb (x y : Tb) : Bool := x.from_ == y.from_ && (x.to_ == y.to_ && x.len == y.len)
theorem sameTb_refl (x : Tb) : sameTb x x = true := by simp [sameTb]
theorem sameI_refl (x : Int) : sameI x x = true := by simp [sameI]

theorem make_i64 (n : Nat) (hn : n ≤ 1048576) : ∀ w : World, (Instr.makeSlice 25 (.int .i64 (n : Int)) (.int .i64 (n : Int))).run Tryd.prog w = .ok (.slice (some ⟨w.heap.size, 0, none⟩) n n) (w.alloc (.cells (madeCells #[.int .i64 0] n) 2)) := by
  have := run_make_small 25 2 (.int .i64 0) 1 8 Tryd.underlying25 (by kernel_rfl) (by decide) n hn
  rwa [Nat.mul_one] at this
set_option maxHeartbeats 4000000 in
theorem lawInt64S_any (A : Option Addr) (n c : Nat) (l : List Int) (A' : Option Addr) (n' c' : Nat) (l' : List Int) (B : Nat) (w : World) (h : Reads w B 1 A n (ints l)) (h' : Reads w B 1 A' n' (ints l')) (hn : n ≤ 1048576) (hn' : n' ≤ 1048576) :
    Calls Tryd.prog 12 #[.slice A n c, .slice A' n' c'] w fun e w' => e = .returned (.bool (sameL sameI l l')) ∧ ∃ q, w' = w.drewN q := by
  have hl := Lib.hid (ints_len h)
  have hl' := Lib.hid (ints_len h')
  by_cases hnn : n = n'
  · subst hnn
    go_enter Tryd.func12, Tryd.ntmps12
    go_wp2
    go_loopw [5] (fun i wr => ∃ k q : Nat, k ≤ n ∧ i = .int .i64 k ∧ AllS sameI l l' k ∧ wr = w.drewN q) (fun i _ => n - (intOf i).toNat)
    case atStart => exact ⟨0, 0, Nat.zero_le _, rfl, AllS.zero _ _ _, rfl⟩
    case round =>
      obtain ⟨k, q, hk, rfl, hall, rfl⟩ := hrel
      have HA := Lib.hid hall
      clear hall
      by_cases hlt : k < n
      · obtain ⟨x, b, off, he, rfl, hb, c0⟩ := int_at h hlt
        obtain ⟨y, b', off', he', rfl, hb', d0⟩ := int_at h' hlt
        have hi0 : (0 : Int) ≤ k := by omega
        have hi1 : (k : Int) < n := by omega
        have HE := Lib.hid he
        have HE' := Lib.hid he'
        clear he he' h h'
        rcases hb0 : (x == y) with _ | _
        · have HO := Lib.hid (show sameL sameI l l' = false from sameL_bad HE.out HE'.out (by simp [sameI, hb0]))
          go_wp2_with fail
          go_quiet (fail)
          go_wp2
          go_ret
          exact ⟨ret_bool HO.out.symm, _, World.drewN_drewN _ _ _⟩
        · skip
          have HT := Lib.hid (show sameI x y = true by simp [sameI, hb0])
          go_wp2_with fail
          go_quiet (fail)
          go_wp2
          go_roundw
          case rel => exact ⟨k + 1, _, by omega, by go_num, HA.out.step HE.out HE'.out HT.out, rfl⟩
          case measure => simp [intOf]; omega
      · obtain rfl : k = n := by omega
        have HO := Lib.hid (HA.out.done hl.out hl'.out)
        go_wp2
        go_ret
        exact ⟨ret_bool HO.out.symm, q, rfl⟩
  · have HO := Lib.hid (show sameL sameI l l' = false from sameL_len (by rw [hl.out, hl'.out]; exact hnn))
    have hne : ((n : Int) != (n' : Int)) = true := by rw [bne_iff_ne]; omega
    clear hnn
    go_enter Tryd.func12, Tryd.ntmps12
    go_wp2
    go_ret
    exact ⟨ret_bool HO.out.symm, 0, rfl⟩

end Go.Proofs.YtgcepomehgedfaaDoor
