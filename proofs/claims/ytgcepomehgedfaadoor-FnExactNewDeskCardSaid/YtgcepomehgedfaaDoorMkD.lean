/- The marks of a desk: laid and found. -/
import Derived.Test.YtgcepomehgedfaaDoorMkP
set_option linter.unusedVariables false
set_option linter.unusedSimpArgs false
namespace Go.Proofs.YtgcepomehgedfaaDoor
open Go.RowKit

theorem fillL_ints {ys : List Value} {l : List Int} {n : Nat} (h : FillL ys (ints l) n) (h1 : ys.length = n) (h2 : l.length = n) : ys = ints l := h.done h1 (by rw [ints_length]; exact h2)
theorem markI64_k (A : Option Addr) (n c lo hi : Nat) (k0 : Int) (xs : List Value) (w : World) (h : Sl w lo hi 2 1 A n c xs) (hn : n ≤ 1048576) (hk0 : 0 ≤ k0) (hk1 : k0 ≤ 4000000000000) :
    Calls Tryd.prog 15 #[.slice A n c, .int .i64 k0] w fun e w' => e = .returned (.int .i64 (k0 + (n : Int))) ∧ Sl w' lo hi 2 1 A n c (ints (marksK k0 n)) ∧ Off (inB A) w w' := by
  have hxs := Lib.hid h.len
  go_enter Tryd.func15, Tryd.ntmps15
  go_wp2
  go_loopw [1, 5] (fun q i wr => ∃ (k : Nat) (ys : List Value), k ≤ n ∧ i = .int .i64 k ∧ q = .int .i64 (k0 + (k : Int)) ∧ Sl wr lo hi 2 1 A n c ys ∧ FillL ys (ints (marksK k0 n)) k ∧ Off (inB A) w wr) (fun _ i _ => n - (intOf i).toNat)
  case atStart => exact ⟨0, xs, Nat.zero_le _, rfl, by simp, h, FillL.zero _ _, Off.refl _ _⟩
  case round =>
    obtain ⟨k, ys, hk, rfl, rfl, hsl, hfill, honly⟩ := hrel
    have HS := Lib.hid hsl
    have HF := Lib.hid hfill
    have HO := Lib.hid honly
    have HL := Lib.hid hsl.len
    clear hsl hfill honly h
    by_cases hlt : k < n
    · obtain ⟨g, rfl, hg1, hg2, hg3⟩ := HS.out.lt (by omega)
      have hcell := HS.out.cellAt k (by omega)
      rw [List.getElem?_eq_getElem (by have := HL.out; omega)] at hcell
      have hfro := HS.out.frozenAt k
      go_wp2
      go_roundw
      case rel =>
        refine ⟨k + 1, _, by omega, by go_num, by simp; omega, HS.out.set_ _ _, ?_, HO.out.setCell (p := ⟨g, k, none⟩) (inB_self g 0) _⟩
        exact HF.out.step (ints_get (marksK_get hlt)) (by have := HL.out; omega)
      case measure => simp [intOf]; omega
    · obtain rfl : k = n := by omega
      have e : ys = ints (marksK k0 k) := fillL_ints HF.out (by have := HL.out; omega) (marksK_length _ _)
      go_wp2
      go_ret
      exact ⟨rfl, by rw [← e]; exact HS.out, HO.out⟩
theorem heldI64_k (A : Option Addr) (n c B : Nat) (k0 : Int) (w : World) (h : Reads w B 1 A n (ints (marksK k0 n))) (hn : n ≤ 1048576) (hk0 : 0 ≤ k0) (hk1 : k0 ≤ 4000000000000) :
    Calls Tryd.prog 18 #[.slice A n c, .int .i64 k0] w fun e w' => e = .returned (.int .i64 (k0 + (n : Int))) ∧ Below w.heap.size w w' := by
  go_enter Tryd.func18, Tryd.ntmps18
  go_wp2
  go_loop [1, 5] (fun q i => ∃ (k : Nat), k ≤ n ∧ i = .int .i64 k ∧ q = .int .i64 (k0 + (k : Int))) (fun _ i => n - (intOf i).toNat)
  case atStart => exact ⟨0, Nat.zero_le _, rfl, by simp⟩
  case round =>
    obtain ⟨k, hk, rfl, rfl⟩ := hrel
    by_cases hlt : k < n
    · obtain ⟨x, b, off, he, rfl, hb, c0⟩ := int_at h hlt
      obtain rfl : k0 + (k : Int) = x := by rw [marksK_get hlt] at he; injection he
      clear he h
      go_wp2
      go_round
      case rel => exact ⟨k + 1, by omega, by go_num, by simp; omega⟩
      case measure => simp [intOf]; omega
    · obtain rfl : k = n := by omega
      go_wp2
      go_ret
      exact ⟨rfl, Below.refl _ _⟩
theorem tbs_at {n : Nat} {k0 : Int} {k : Nat} (h : k < n) : (tbs (marksT k0 n))[k * 3]? = some (.int .i64 (k0 + 3 * (k : Int))) ∧ (tbs (marksT k0 n))[k * 3 + 1]? = some (.int .i64 (k0 + 3 * (k : Int) + 1)) ∧ (tbs (marksT k0 n))[k * 3 + 2]? = some (.int .i64 (k0 + 3 * (k : Int) + 2)) := tbs_get (marksT_get h)
theorem markTb_k (A : Option Addr) (n c lo hi : Nat) (k0 : Int) (xs : List Value) (w : World) (h : Sl w lo hi 42 3 A n c xs) (hn : n ≤ 1048576) (hk0 : 0 ≤ k0) (hk1 : k0 ≤ 4000000000000) :
    Calls Tryd.prog 27 #[.slice A n c, .int .i64 k0] w fun e w' => e = .returned (.int .i64 (k0 + 3 * (n : Int))) ∧ Sl w' lo hi 42 3 A n c (tbs (marksT k0 n)) ∧ Off (inB A) w w' := by
  have hxs := Lib.hid h.len
  go_enter Tryd.func27, Tryd.ntmps27
  go_wp2
  go_loopw [1, 5] (fun q i wr => ∃ (k : Nat) (ys : List Value), k ≤ n ∧ i = .int .i64 k ∧ q = .int .i64 (k0 + 3 * (k : Int)) ∧ Sl wr lo hi 42 3 A n c ys ∧ FillL ys (tbs (marksT k0 n)) (k * 3) ∧ Off (inB A) w wr) (fun _ i _ => n - (intOf i).toNat)
  case atStart => exact ⟨0, xs, Nat.zero_le _, rfl, by simp, h, FillL.zero _ _, Off.refl _ _⟩
  case round =>
    obtain ⟨k, ys, hk, rfl, rfl, hsl, hfill, honly⟩ := hrel
    have HS := Lib.hid hsl
    have HF := Lib.hid hfill
    have HO := Lib.hid honly
    have HL := Lib.hid hsl.len
    clear hsl hfill honly h
    by_cases hlt : k < n
    · obtain ⟨g, rfl, hg1, hg2, hg3⟩ := HS.out.lt (by omega)
      obtain ⟨v0, hv0⟩ := list_at (ys := ys) (j := k * 3) (by have := HL.out; omega)
      obtain ⟨v1, hv1⟩ := list_at (ys := ys) (j := k * 3 + 1) (by have := HL.out; omega)
      obtain ⟨v2, hv2⟩ := list_at (ys := ys) (j := k * 3 + 2) (by have := HL.out; omega)
      have c0 := (HS.out.cellAt (k * 3) (by omega)).trans hv0
      have c1 := (HS.out.cellAt (k * 3 + 1) (by omega)).trans hv1
      have c2 := (HS.out.cellAt (k * 3 + 2) (by omega)).trans hv2
      have f0 := HS.out.frozenAt (k * 3)
      have f1 := HS.out.frozenAt (k * 3 + 1)
      have f2 := HS.out.frozenAt (k * 3 + 2)
      have hk0' : (0 : Int) ≤ k := by omega
      have hkn : (k : Int) < n := by omega
      clear hv0 hv1 hv2
      go_wp2
      go_roundw
      case rel =>
        obtain ⟨e0, e1, e2⟩ := tbs_at (k0 := k0) hlt
        refine ⟨k + 1, _, by omega, by go_num, by simp; omega, ((HS.out.set_ _ _).set_ _ _).set_ _ _, ?_, ((HO.out.setCell (p := ⟨g, k * 3, none⟩) (inB_self g 0) _).setCell (p := ⟨g, k * 3 + 1, none⟩) (inB_self g 0) _).setCell (p := ⟨g, k * 3 + 2, none⟩) (inB_self g 0) _⟩
        have q := ((HF.out.step e0 (by have := HL.out; omega)).step e1 (by have := HL.out; simp; omega)).step e2 (by have := HL.out; simp; omega)
        rw [show (k + 1) * 3 = k * 3 + 1 + 1 + 1 by omega]
        simpa [Int.add_assoc] using q
      case measure => simp [intOf]; omega
    · obtain rfl : k = n := by omega
      have e : ys = tbs (marksT k0 k) := HF.out.done (by have := HL.out; omega) (by rw [tbs_length, marksT_length])
      go_wp2
      go_ret
      exact ⟨rfl, by rw [← e]; exact HS.out, HO.out⟩
theorem heldTb_k (A : Option Addr) (n c B : Nat) (k0 : Int) (w : World) (h : Reads w B 3 A n (tbs (marksT k0 n))) (hn : n ≤ 1048576) (hk0 : 0 ≤ k0) (hk1 : k0 ≤ 4000000000000) :
    Calls Tryd.prog 28 #[.slice A n c, .int .i64 k0] w fun e w' => e = .returned (.int .i64 (k0 + 3 * (n : Int))) ∧ Below w.heap.size w w' := by
  go_enter Tryd.func28, Tryd.ntmps28
  go_wp2
  go_loop [1, 5] (fun q i => ∃ (k : Nat), k ≤ n ∧ i = .int .i64 k ∧ q = .int .i64 (k0 + 3 * (k : Int))) (fun _ i => n - (intOf i).toNat)
  case atStart => exact ⟨0, Nat.zero_le _, rfl, by simp⟩
  case round =>
    obtain ⟨k, hk, rfl, rfl⟩ := hrel
    by_cases hlt : k < n
    · obtain ⟨x, b, off, he, rfl, hb, c0, c1, c2⟩ := tb_at h hlt
      obtain rfl : (⟨k0 + 3 * (k : Int), k0 + 3 * (k : Int) + 1, k0 + 3 * (k : Int) + 2⟩ : Tb) = x := by rw [marksT_get hlt] at he; injection he
      have c2' : w.cell? ⟨b, off + k * 3 + 2, none⟩ = some (.int .i64 (k0 + 3 * (k : Int) + 1 + 1)) := by rw [c2]; simp; omega
      have hk0' : (0 : Int) ≤ k := by omega
      have hkn : (k : Int) < n := by omega
      simp only at c0 c1
      clear he h c2
      go_wp2
      go_round
      case rel => exact ⟨k + 1, by omega, by go_num, by simp; omega⟩
      case measure => simp [intOf]; omega
    · obtain rfl : k = n := by omega
      go_wp2
      go_ret
      exact ⟨rfl, Below.refl _ _⟩
end Go.Proofs.YtgcepomehgedfaaDoor
