/- Events: the law's comparison of two lists that read alike; its marks. -/
import Derived.Test.YtnlghcpidlpfkaaEvB
set_option linter.unusedVariables false
namespace Go.Proofs.Ytnlghcpidlpfkaa
open Go.RowKit

theorem eqEvent_same (s h : Int) (w : World) : Calls Try.prog 134 #[.agg #[.int .i64 s, .int .i64 h], .agg #[.int .i64 s, .int .i64 h]] w fun e w' => e = .returned (.bool true) ∧ Below w.heap.size w w' := by
  go_enter Try.func134, Try.ntmps134
  go_wp2
  go_ret
  exact ⟨rfl, ((Below.refl _ _).alloc (Nat.le_refl _) _).alloc (by simp) _⟩

theorem eqEventS_same (A A' : Option Addr) (n c c' B : Nat) (l : List Ev) (w : World) (h : Reads w B 2 A n (evs l)) (h' : Reads w B 2 A' n (evs l)) (hn : n ≤ 1048576) (hB : B ≤ w.heap.size) :
    Calls Try.prog 40 #[.slice A n c, .slice A' n c'] w fun e w' => e = .returned (.bool true) ∧ Below w.heap.size w w' := by
  go_enter Try.func40, Try.ntmps40
  go_wp2
  go_loopw [5] (fun i wr => ∃ k : Nat, k ≤ n ∧ i = .int .i64 k ∧ Below w.heap.size w wr) (fun i _ => n - (intOf i).toNat)
  case atStart => exact ⟨0, Nat.zero_le _, rfl, Below.refl _ _⟩
  case round =>
    obtain ⟨k, hk, rfl, hbel⟩ := hrel
    by_cases hlt : k < n
    · obtain ⟨⟨s, hh⟩, b, off, he, rfl, hb, c0, c1⟩ := ev_at (h.on hB hbel) hlt
      obtain ⟨⟨s', hh'⟩, b', off', he', rfl, hb', d0, d1⟩ := ev_at (h'.on hB hbel) hlt
      obtain ⟨rfl, rfl⟩ : s = s' ∧ hh = hh' := by rw [he] at he'; injection he' with he'; injection he' with h1 h2; exact ⟨h1, h2⟩
      simp only at c0 c1 d0 d1
      have HB := Lib.hid hbel
      have hlt' : (k : Int) < n := by omega
      have hk0 : (0 : Int) ≤ k := by omega
      have hbw : b < wr.heap.size := by have := hbel.size; omega
      have hbw' : b' < wr.heap.size := by have := hbel.size; omega
      clear he he' hbel h h'
      go_wp2_with fail
      go_region_held3 (fun W => Below wr.heap.size wr W ∧ W.cell? ⟨b, off + k * 2, none⟩ = some (.int .i64 s) ∧ W.cell? ⟨b, off + k * 2 + 1, none⟩ = some (.int .i64 hh) ∧ W.cell? ⟨b', off' + k * 2, none⟩ = some (.int .i64 s) ∧ W.cell? ⟨b', off' + k * 2 + 1, none⟩ = some (.int .i64 hh)) (first | exact ⟨(Below.refl _ _).drew, c0, c1, d0, d1⟩ | (go_split_ands; exact ⟨bnext (by assumption) hb1 (Nat.le_refl _), cell_on hb1 (by assumption), cell_on hb1 (by assumption), cell_on hb1 (by assumption), cell_on hb1 (by assumption)⟩)) (first | (go_at_call 134; refine (eqEvent_same _ _ _).mono ?_; rintro e w1 ⟨rfl, hb1⟩))
      rename_i hS
      have HS := Lib.hid (bnext HB.out hS.1 (Nat.le_refl _))
      clear hS hb1 c0 c1 d0 d1
      go_wp2
      go_roundw
      case rel => exact ⟨k + 1, by omega, by go_num, HS.out⟩
      case measure => simp [intOf]; omega
    · obtain rfl : k = n := by omega
      go_wp2
      go_ret
      exact ⟨rfl, hbel⟩

theorem markEventS_any (A : Option Addr) (n c lo hi : Nat) (k0 : Int) (xs : List Value) (w : World) (h : Sl w lo hi 156 2 A n c xs) (hn : n ≤ 1048576) (hk0 : 0 ≤ k0) (hk1 : k0 ≤ 1000000000000) :
    Calls Try.prog 41 #[.slice A n c, .int .i64 k0] w fun e w' => ∃ q : Int, e = .returned (.int .i64 q) ∧ 0 ≤ q ∧ q ≤ k0 + 10485760 ∧ Only lo hi w w' := by
  have hxs := Lib.hid h.len
  go_enter Try.func41, Try.ntmps41
  go_wp2
  go_loopw [1, 5] (fun q i wr => ∃ (k : Nat) (ys : List Value), k ≤ n ∧ i = .int .i64 k ∧ q = .int .i64 (k0 + 2 * (k : Int)) ∧ Sl wr lo hi 156 2 A n c ys ∧ Only lo hi w wr) (fun _ i _ => n - (intOf i).toNat)
  case atStart => exact ⟨0, xs, Nat.zero_le _, rfl, by simp, h, Only.refl _ _ _⟩
  case round =>
    obtain ⟨k, ys, hk, rfl, rfl, hsl, honly⟩ := hrel
    have HS := Lib.hid hsl
    have HO := Lib.hid honly
    have HL := Lib.hid hsl.len
    clear hsl honly h
    by_cases hlt : k < n
    · obtain ⟨g, rfl, hg1, hg2, hg3⟩ := HS.out.lt (by omega)
      have hc0 := HS.out.cellAt (k * 2) (by omega)
      have hc1 := (HS.out.set_ (k * 2) (.int .i64 (k0 + 2 * (k : Int)))).cellAt (k * 2 + 1) (by omega)
      rw [List.getElem?_eq_getElem (by have := HL.out; omega)] at hc0
      rw [List.getElem?_eq_getElem (by have := HL.out; simp; omega)] at hc1
      have hf0 := HS.out.frozenAt (k * 2)
      have hf1 := (HS.out.set_ (k * 2) (.int .i64 (k0 + 2 * (k : Int)))).frozenAt (k * 2 + 1)
      go_wp2
      go_roundw
      case rel =>
        refine ⟨k + 1, _, by omega, by go_num, ?_, (HS.out.set_ _ _).set_ _ _, (HO.out.setCell hg1 hg2 _).setCell hg1 hg2 _⟩
        simp; omega
      case measure => simp [intOf]; omega
    · obtain rfl : k = n := by omega
      go_wp2
      go_ret
      exact ⟨_, rfl, by omega, by omega, HO.out⟩
end Go.Proofs.Ytnlghcpidlpfkaa
