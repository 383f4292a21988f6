/- Slices of int64: the law's comparisons, marks and their reading. -/
import Derived.Test.YtgcepomehgedfaaDoorProg
import Derived.Test.YtgcepomehgedfaaDoorMem
import Derived.Deep.QuietTactic
import Derived.BigQuiet
set_option linter.unusedVariables false
namespace Go.Proofs.YtgcepomehgedfaaDoor
open Go.RowKit

theorem int_at {w : World} {B n k : Nat} {A : Option Addr} {l : List Int} (h : Reads w B 1 A n (ints l)) (hk : k < n) :
    ∃ (x : Int) (b off : Nat), l[k]? = some x ∧ A = some ⟨b, off, none⟩ ∧ b < B ∧ w.cell? ⟨b, off + k, none⟩ = some (.int .i64 x) := by
  obtain ⟨b, off, rfl, hb, hcell⟩ := h.at_ (by omega)
  have hl := h.1
  rw [ints_length] at hl
  have he : l[k]? = some l[k] := List.getElem?_eq_getElem (by omega)
  exact ⟨_, b, off, he, rfl, hb, hcell _ _ (ints_get he)⟩
theorem ints_len {w : World} {B n : Nat} {A : Option Addr} {l : List Int} (h : Reads w B 1 A n (ints l)) : l.length = n := by
  have := h.1
  rw [ints_length] at this
  omega

/-- The law's comparison of two slices that read alike. -/
theorem eqInt64S_same (A A' : Option Addr) (n c c' B : Nat) (l : List Int) (w : World) (h : Reads w B 1 A n (ints l)) (h' : Reads w B 1 A' n (ints l)) (hn : n ≤ 1048576) (hB : B ≤ w.heap.size) :
    Calls Tryd.prog 12 #[.slice A n c, .slice A' n c'] w fun e w' => e = .returned (.bool true) ∧ Below w.heap.size w w' := by
  go_enter Tryd.func12, Tryd.ntmps12
  go_wp2
  go_loopw [5] (fun i wr => ∃ k : Nat, k ≤ n ∧ i = .int .i64 k ∧ Below w.heap.size w wr) (fun i _ => n - (intOf i).toNat)
  case atStart => exact ⟨0, Nat.zero_le _, rfl, Below.refl _ _⟩
  case round =>
    obtain ⟨k, hk, rfl, hbel⟩ := hrel
    by_cases hlt : k < n
    · obtain ⟨x, b, off, he, rfl, hb, c0⟩ := int_at (h.on hB hbel) hlt
      obtain ⟨x', b', off', he', rfl, hb', c1⟩ := int_at (h'.on hB hbel) hlt
      obtain rfl : x = x' := by rw [he] at he'; injection he'
      have HB := Lib.hid hbel
      have hlt' : (k : Int) < n := by omega
      have hk0 : (0 : Int) ≤ k := by omega
      clear he he' hbel h h'
      go_wp2_with fail
      go_quiet (fail)
      go_wp2
      go_roundw
      case rel => exact ⟨k + 1, by omega, by go_num, below_drewN HB.out _⟩
      case measure => simp [intOf]; omega
    · obtain rfl : k = n := by omega
      go_wp2
      go_ret
      exact ⟨rfl, hbel⟩

theorem markInt64S_any (A : Option Addr) (n c lo hi : Nat) (xs : List Value) (w : World) (h : Sl w lo hi 2 1 A n c xs) (hn : n ≤ 1048576) :
    Calls Tryd.prog 15 #[.slice A n c, .int .i64 1] w fun e w' => e = .returned (.int .i64 (1 + (n : Int))) ∧ Sl w' lo hi 2 1 A n c (ints (marks n)) ∧ Only lo hi w w' := by
  have hxs := Lib.hid h.len
  go_enter Tryd.func15, Tryd.ntmps15
  go_wp2
  go_loopw [1, 5] (fun q i wr => ∃ (k : Nat) (ys : List Value), k ≤ n ∧ i = .int .i64 k ∧ q = .int .i64 (1 + (k : Int)) ∧ Sl wr lo hi 2 1 A n c ys ∧ Fill ys.toArray (ints (marks n)) k ∧ Only lo hi w wr) (fun _ i _ => n - (intOf i).toNat)
  case atStart => exact ⟨0, xs, Nat.zero_le _, rfl, rfl, h, Fill.zero _ _, Only.refl _ _ _⟩
  case round =>
    obtain ⟨k, ys, hk, rfl, rfl, hsl, hfill, honly⟩ := hrel
    have HS := Lib.hid hsl
    have HF := Lib.hid hfill
    have HO := Lib.hid honly
    have HL := Lib.hid hsl.len
    clear hsl hfill honly h
    by_cases hlt : k < n
    · obtain ⟨g, rfl, hg1, hg2, hg3⟩ := HS.out.lt (by omega)
      have hcell := HS.out.cellAt k (by omega)
      rw [List.getElem?_eq_getElem (by have := HL.out; omega)] at hcell
      have hfro := HS.out.frozenAt k
      go_wp2
      go_roundw
      case rel =>
        refine ⟨k + 1, _, by omega, by go_num, ?_, HS.out.set_ _ _, ?_, HO.out.setCell hg1 hg2 _⟩
        · simp; omega
        · have := HF.out.step (ints_get (marks_get hlt)) (by have := HL.out; simp; omega)
          rwa [List.setIfInBounds_toArray] at this
      case measure => simp [intOf]; omega
    · obtain rfl : k = n := by omega
      go_wp2
      go_ret
      refine ⟨rfl, ?_, HO.out⟩
      have := HF.out.done (by have := HL.out; simp; omega) (by rw [ints_length, marks_length])
      have e : ys = ints (marks k) := by simpa using congrArg Array.toList this
      rw [← e]
      exact HS.out

theorem heldInt64S_any (A : Option Addr) (n c B : Nat) (w : World) (h : Reads w B 1 A n (ints (marks n))) (hn : n ≤ 1048576) (_hB : B ≤ w.heap.size) :
    Calls Tryd.prog 18 #[.slice A n c, .int .i64 1] w fun e w' => e = .returned (.int .i64 (1 + (n : Int))) ∧ Below w.heap.size w w' := by
  go_enter Tryd.func18, Tryd.ntmps18
  go_wp2
  go_loop [1, 5] (fun q i => ∃ (k : Nat), k ≤ n ∧ i = .int .i64 k ∧ q = .int .i64 (1 + (k : Int))) (fun _ i => n - (intOf i).toNat)
  case atStart => exact ⟨0, Nat.zero_le _, rfl, rfl⟩
  case round =>
    obtain ⟨k, hk, rfl, rfl⟩ := hrel
    by_cases hlt : k < n
    · obtain ⟨x, b, off, he, rfl, hb, c0⟩ := int_at h hlt
      obtain rfl : 1 + (k : Int) = x := by rw [marks_get hlt] at he; injection he
      clear he h
      go_wp2
      go_round
      case rel => exact ⟨k + 1, by omega, by go_num, by simp; omega⟩
      case measure => simp [intOf]; omega
    · obtain rfl : k = n := by omega
      go_wp2
      go_ret
      exact ⟨rfl, Below.refl _ _⟩
end Go.Proofs.YtgcepomehgedfaaDoor
