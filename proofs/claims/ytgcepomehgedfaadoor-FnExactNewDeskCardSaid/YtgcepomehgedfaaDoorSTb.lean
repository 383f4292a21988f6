/- Tube values: their cells, lists of them, the law's copies, sizes, comparisons and marks. -/
import Derived.Test.YtgcepomehgedfaaDoorProg
import Derived.Test.YtgcepomehgedfaaDoorMem
import Derived.Test.YtgcepomehgedfaaDoorOpen
import Derived.Deep.RegionHeld3
import Derived.BigQuiet
set_option linter.unusedVariables false
namespace Go.Proofs.YtgcepomehgedfaaDoor
open Go.RowKit Go.ChangeShapes Go.WideShapes Go.Deep

structure Tb where
  from_ : Int
  to_ : Int
  len : Int

def Tb.good (x : Tb) : Prop := I64 x.from_ ∧ I64 x.to_ ∧ I64 x.len
def cellsTb (x : Tb) : List Value := [.int .i64 x.from_, .int .i64 x.to_, .int .i64 x.len]
def tbv (x : Tb) : Value := .agg #[.int .i64 x.from_, .int .i64 x.to_, .int .i64 x.len]
def tbs (l : List Tb) : List Value := l.flatMap cellsTb
theorem tbs_length (l : List Tb) : (tbs l).length = l.length * 3 := flat_length cellsTb 3 (fun _ => rfl) l
theorem tbs_get {l : List Tb} {k : Nat} {x : Tb} (h : l[k]? = some x) : (tbs l)[k * 3]? = some (.int .i64 x.from_) ∧ (tbs l)[k * 3 + 1]? = some (.int .i64 x.to_) ∧ (tbs l)[k * 3 + 2]? = some (.int .i64 x.len) :=
  ⟨flat_get cellsTb 3 (fun _ => rfl) l k x h 0 (by omega), flat_get cellsTb 3 (fun _ => rfl) l k x h 1 (by omega), flat_get cellsTb 3 (fun _ => rfl) l k x h 2 (by omega)⟩
theorem tbs_len {w : World} {B n : Nat} {A : Option Addr} {l : List Tb} (h : Reads w B 3 A n (tbs l)) : l.length = n := by
  have := h.1
  rw [tbs_length] at this
  omega
theorem tb_at {w : World} {B n k : Nat} {A : Option Addr} {l : List Tb} (h : Reads w B 3 A n (tbs l)) (hk : k < n) :
    ∃ (x : Tb) (b off : Nat), l[k]? = some x ∧ A = some ⟨b, off, none⟩ ∧ b < B ∧ w.cell? ⟨b, off + k * 3, none⟩ = some (.int .i64 x.from_) ∧ w.cell? ⟨b, off + k * 3 + 1, none⟩ = some (.int .i64 x.to_) ∧ w.cell? ⟨b, off + k * 3 + 2, none⟩ = some (.int .i64 x.len) := by
  obtain ⟨b, off, rfl, hb, hcell⟩ := h.at_ (by omega)
  have hl := tbs_len h
  have he : l[k]? = some l[k] := List.getElem?_eq_getElem (by omega)
  obtain ⟨e0, e1, e2⟩ := tbs_get he
  exact ⟨_, b, off, he, rfl, hb, hcell _ _ e0, hcell _ _ e1, hcell _ _ e2⟩

section
variable {H : Type} {enc : TypeId × Value → H} {w : World}
end

theorem make_tb (n : Nat) (hn : n ≤ 1048576) : ∀ w : World, (Instr.makeSlice 22 (.int .i64 (n : Int)) (.int .i64 (n : Int))).run Tryd.prog w = .ok (.slice (some ⟨w.heap.size, 0, none⟩) n n) (w.alloc (.cells (madeCells #[.int .i64 0, .int .i64 0, .int .i64 0] (n * 3)) 42)) :=
  run_make_small 22 42 (.agg #[.int .i64 0, .int .i64 0, .int .i64 0]) 3 24 Tryd.underlying22 (by kernel_rfl) (by decide) n hn
theorem eqTube_same (x : Tb) (w : World) : Calls Tryd.prog 37 #[.agg #[.int .i64 x.from_, .int .i64 x.to_, .int .i64 x.len], .agg #[.int .i64 x.from_, .int .i64 x.to_, .int .i64 x.len]] w fun e w' => e = .returned (.bool true) ∧ Below w.heap.size w w' := by
  go_enter Tryd.func37, Tryd.ntmps37
  go_wp2
  go_ret
  exact ⟨rfl, ((Below.refl _ _).alloc (Nat.le_refl _) _).alloc (by simp) _⟩
theorem eqTubeS_same (A A' : Option Addr) (n c c' B : Nat) (l : List Tb) (w : World) (h : Reads w B 3 A n (tbs l)) (h' : Reads w B 3 A' n (tbs l)) (hn : n ≤ 1048576) (hB : B ≤ w.heap.size) :
    Calls Tryd.prog 25 #[.slice A n c, .slice A' n c'] w fun e w' => e = .returned (.bool true) ∧ Below w.heap.size w w' := by
  go_enter Tryd.func25, Tryd.ntmps25
  go_wp2
  go_loopw [5] (fun i wr => ∃ k : Nat, k ≤ n ∧ i = .int .i64 k ∧ Below w.heap.size w wr) (fun i _ => n - (intOf i).toNat)
  case atStart => exact ⟨0, Nat.zero_le _, rfl, Below.refl _ _⟩
  case round =>
    obtain ⟨k, hk, rfl, hbel⟩ := hrel
    by_cases hlt : k < n
    · obtain ⟨x, b, off, he, rfl, hb, c0, c1, c2⟩ := tb_at (h.on hB hbel) hlt
      obtain ⟨x', b', off', he', rfl, hb', d0, d1, d2⟩ := tb_at (h'.on hB hbel) hlt
      obtain rfl : x = x' := by rw [he] at he'; injection he'
      have HB := Lib.hid hbel
      have hlt' : (k : Int) < n := by omega
      have hk0 : (0 : Int) ≤ k := by omega
      have hbw : b < wr.heap.size := by have := hbel.size; omega
      have hbw' : b' < wr.heap.size := by have := hbel.size; omega
      clear he he' hbel h h'
      go_wp2_with fail
      go_region_held3 (fun W => Below wr.heap.size wr W ∧ W.cell? ⟨b, off + k * 3, none⟩ = some (.int .i64 x.from_) ∧ W.cell? ⟨b, off + k * 3 + 1, none⟩ = some (.int .i64 x.to_) ∧ W.cell? ⟨b, off + k * 3 + 2, none⟩ = some (.int .i64 x.len) ∧ W.cell? ⟨b', off' + k * 3, none⟩ = some (.int .i64 x.from_) ∧ W.cell? ⟨b', off' + k * 3 + 1, none⟩ = some (.int .i64 x.to_) ∧ W.cell? ⟨b', off' + k * 3 + 2, none⟩ = some (.int .i64 x.len)) (first | exact ⟨(Below.refl _ _).drew, c0, c1, c2, d0, d1, d2⟩ | (go_split_ands; exact ⟨bnext (by assumption) hb1 (Nat.le_refl _), cell_on hb1 (by assumption), cell_on hb1 (by assumption), cell_on hb1 (by assumption), cell_on hb1 (by assumption), cell_on hb1 (by assumption), cell_on hb1 (by assumption)⟩)) (first | (go_at_call 37; refine (eqTube_same x _).mono ?_; rintro e w1 ⟨rfl, hb1⟩))
      rename_i hS
      have HS := Lib.hid (bnext HB.out hS.1 (Nat.le_refl _))
      clear hS hb1 c0 c1 c2 d0 d1 d2
      go_wp2
      go_roundw
      case rel => exact ⟨k + 1, by omega, by go_num, HS.out⟩
      case measure => simp [intOf]; omega
    · obtain rfl : k = n := by omega
      go_wp2
      go_ret
      exact ⟨rfl, hbel⟩

end Go.Proofs.YtgcepomehgedfaaDoor
