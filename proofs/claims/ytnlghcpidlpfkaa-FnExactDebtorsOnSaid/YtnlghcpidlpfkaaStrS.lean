/- Slices of strings: the law's comparisons, marks and their reading. -/
import Derived.Test.YtnlghcpidlpfkaaProg
import Derived.Test.YtnlghcpidlpfkaaMem
import Derived.Test.YtnlghcpidlpfkaaMark
import Derived.Deep.QuietTactic
import Derived.Deep.RegionHeld3
import Derived.BigQuiet
set_option linter.unusedVariables false
namespace Go.Proofs.Ytnlghcpidlpfkaa
open Go.RowKit

theorem str_at {w : World} {B n k : Nat} {A : Option Addr} {l : List ByteArray} (h : Reads w B 1 A n (strs l)) (hk : k < n) :
    ∃ (x : ByteArray) (b off : Nat), l[k]? = some x ∧ A = some ⟨b, off, none⟩ ∧ b < B ∧ w.cell? ⟨b, off + k, none⟩ = some (.string x) := by
  obtain ⟨b, off, rfl, hb, hcell⟩ := h.at_ (by omega)
  have hl := h.1
  rw [strs_length] at hl
  have he : l[k]? = some l[k] := List.getElem?_eq_getElem (by omega)
  exact ⟨_, b, off, he, rfl, hb, hcell _ _ (strs_get he)⟩
theorem strs_len {w : World} {B n : Nat} {A : Option Addr} {l : List ByteArray} (h : Reads w B 1 A n (strs l)) : l.length = n := by
  have := h.1
  rw [strs_length] at this
  omega
def tmarks (n : Nat) : List ByteArray := (List.range n).map fun (j : Nat) => mkText (1 + j)
theorem tmarks_length (n : Nat) : (tmarks n).length = n := by simp [tmarks]
theorem tmarks_get {n i : Nat} (h : i < n) : (tmarks n)[i]? = some (mkText (1 + i)) := by simp [tmarks, h]

/-- The law's comparison of two slices that read alike. -/
theorem eqStringS_same (A A' : Option Addr) (n c c' B : Nat) (l : List ByteArray) (w : World) (h : Reads w B 1 A n (strs l)) (h' : Reads w B 1 A' n (strs l)) (hn : n ≤ 1048576) (hB : B ≤ w.heap.size) :
    Calls Try.prog 46 #[.slice A n c, .slice A' n c'] w fun e w' => e = .returned (.bool true) ∧ Below w.heap.size w w' := by
  go_enter Try.func46, Try.ntmps46
  go_wp2
  go_loopw [5] (fun i wr => ∃ k : Nat, k ≤ n ∧ i = .int .i64 k ∧ Below w.heap.size w wr) (fun i _ => n - (intOf i).toNat)
  case atStart => exact ⟨0, Nat.zero_le _, rfl, Below.refl _ _⟩
  case round =>
    obtain ⟨k, hk, rfl, hbel⟩ := hrel
    by_cases hlt : k < n
    · obtain ⟨x, b, off, he, rfl, hb, c0⟩ := str_at (h.on hB hbel) hlt
      obtain ⟨x', b', off', he', rfl, hb', c1⟩ := str_at (h'.on hB hbel) hlt
      obtain rfl : x = x' := by rw [he] at he'; injection he'
      have HB := Lib.hid hbel
      have hlt' : (k : Int) < n := by omega
      have hk0 : (0 : Int) ≤ k := by omega
      clear he he' hbel h h'
      go_wp2_with fail
      go_quiet (fail)
      go_wp2
      go_roundw
      case rel => exact ⟨k + 1, by omega, by go_num, below_drewN HB.out _⟩
      case measure => simp [intOf]; omega
    · obtain rfl : k = n := by omega
      go_wp2
      go_ret
      exact ⟨rfl, hbel⟩

theorem markStringS_any (A : Option Addr) (n c lo hi : Nat) (xs : List Value) (w : World) (h : Sl w lo hi 9 1 A n c xs) (hn : n ≤ 1048576) :
    Calls Try.prog 47 #[.slice A n c, .int .i64 1] w fun e w' => e = .returned (.int .i64 (1 + (n : Int))) ∧ Sl w' lo hi 9 1 A n c (strs (tmarks n)) ∧ Only lo hi w w' := by
  go_enter Try.func47, Try.ntmps47
  go_wp2
  go_loopw [1, 5] (fun q i wr => ∃ (k : Nat) (ys : List Value), k ≤ n ∧ i = .int .i64 k ∧ q = .int .i64 (1 + (k : Int)) ∧ Sl wr lo hi 9 1 A n c ys ∧ FillL ys (strs (tmarks n)) k ∧ Only lo hi w wr) (fun _ i _ => n - (intOf i).toNat)
  case atStart => exact ⟨0, xs, Nat.zero_le _, rfl, rfl, h, FillL.zero _ _, Only.refl _ _ _⟩
  case round =>
    obtain ⟨k, ys, hk, rfl, rfl, hsl, hfill, honly⟩ := hrel
    have HS := Lib.hid hsl
    have HF := Lib.hid hfill
    have HO := Lib.hid honly
    have hlen := hsl.len
    have HN := Lib.hid hlen
    have hlen1 : n ≤ ys.length := by omega
    clear hsl hfill honly h hlen
    by_cases hlt : k < n
    · obtain ⟨g, rfl, hg1, hg2, hg3⟩ := HS.out.lt (by omega)
      go_wp2_with fail
      rw [show (1 + (k : Int)) = ((1 + k : Nat) : Int) from by omega]
      refine (markText_any _ _ (by omega)).mono ?_
      rintro e w1 ⟨rfl, b1⟩
      have HS1 := Lib.hid (HS.out.on b1)
      have HO1 := Lib.hid (HO.out.trans (Only.of_below b1 _ _))
      clear b1
      obtain ⟨u0, hu0⟩ := list_at (ys := ys) (j := k) (by omega)
      have hc0 := (HS1.out.cellAt k (by omega)).trans hu0
      clear hu0
      have hf0 := HS1.out.frozenAt k
      have hi0 : (0 : Int) ≤ k := by omega
      have hi1 : (k : Int) < n := by omega
      go_wp2
      go_roundw
      case rel =>
        refine ⟨k + 1, _, by omega, by go_num, ?_, HS1.out.set_ k (.string (mkText (1 + k))), ?_, HO1.out.setCell (p := ⟨g, k, none⟩) hg1 hg2 (.string (mkText (1 + k)))⟩
        · simp; omega
        · exact HF.out.step (strs_get (tmarks_get hlt)) (by omega)
      case measure => simp [intOf]; omega
    · obtain rfl : k = n := by omega
      go_wp2
      go_ret
      refine ⟨rfl, ?_, HO.out⟩
      rw [← HF.out.done (by have := HN.out; omega) (by rw [strs_length, tmarks_length])]
      exact HS.out

theorem heldStringS_any (A : Option Addr) (n c B : Nat) (w : World) (h : Reads w B 1 A n (strs (tmarks n))) (hn : n ≤ 1048576) (hB : B ≤ w.heap.size) :
    Calls Try.prog 48 #[.slice A n c, .int .i64 1] w fun e w' => e = .returned (.int .i64 (1 + (n : Int))) ∧ Below w.heap.size w w' := by
  go_enter Try.func48, Try.ntmps48
  go_wp2
  go_loopw [1, 5] (fun q i wr => ∃ (k : Nat), k ≤ n ∧ i = .int .i64 k ∧ q = .int .i64 (1 + (k : Int)) ∧ Below w.heap.size w wr) (fun _ i _ => n - (intOf i).toNat)
  case atStart => exact ⟨0, Nat.zero_le _, rfl, rfl, Below.refl _ _⟩
  case round =>
    obtain ⟨k, hk, rfl, rfl, hbel⟩ := hrel
    by_cases hlt : k < n
    · obtain ⟨b, off, rfl, hb, hcell⟩ := (h.on hB hbel).at_ (by omega)
      have c0 : wr.cell? ⟨b, off + k, none⟩ = some (.string (mkText (1 + k))) := hcell _ _ (strs_get (tmarks_get hlt))
      have HB := Lib.hid hbel
      have hlt' : (k : Int) < n := by omega
      have hi0 : (0 : Int) ≤ k := by omega
      clear hcell hbel h
      go_wp2_with fail
      have hcall : ∀ W : World, Calls Try.prog 106 #[.int .i64 (1 + (k : Int))] W fun e w' => e = .returned (.string (mkText (1 + k))) ∧ Below W.heap.size W w' := by
        intro W; rw [show (1 + (k : Int)) = ((1 + k : Nat) : Int) from by omega]; exact markText_any _ W (by omega)
      have HC1 := Lib.hid hcall
      clear hcall
      go_region_held3 (fun W => Below wr.heap.size wr W ∧ W.cell? ⟨b, off + k, none⟩ = some (.string (mkText (1 + k)))) (first | exact ⟨(Below.refl _ _).drew, c0⟩ | (go_split_ands; exact ⟨bnext (by assumption) hb1 (Nat.le_refl _), cell_on hb1 (by assumption)⟩)) (first | (go_at_call 106; refine (HC1.out _).mono ?_; rintro e w1 ⟨rfl, hb1⟩))
      rename_i hS1
      have HB1 := Lib.hid (bnext HB.out hS1.1 (Nat.le_refl _))
      clear hS1 hb1 c0
      go_wp2
      go_roundw
      case rel => exact ⟨k + 1, by omega, by go_num, by simp; omega, HB1.out⟩
      case measure => simp [intOf]; omega
    · obtain rfl : k = n := by omega
      go_wp2
      go_ret
      exact ⟨rfl, hbel⟩
end Go.Proofs.Ytnlghcpidlpfkaa
