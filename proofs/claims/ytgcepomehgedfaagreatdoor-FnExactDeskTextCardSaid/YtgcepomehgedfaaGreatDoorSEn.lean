/- Entry values: their cells, lists of them, the law's copies, sizes, comparisons and marks. -/
import Derived.Test.YtgcepomehgedfaaGreatDoorProg
import Derived.Test.YtgcepomehgedfaaGreatDoorMem
import Derived.Test.YtgcepomehgedfaaGreatDoorOpen
import Derived.Test.YtgcepomehgedfaaGreatDoorMark
import Derived.Deep.RegionHeld3
import Derived.BigQuiet
set_option linter.unusedVariables false
namespace Go.Proofs.YtgcepomehgedfaaGreatDoor
open Go.RowKit Go.ChangeShapes Go.WideShapes Go.Deep

structure En where
  day : Int
  what : ByteArray
  val : Int

def En.good (x : En) : Prop := I64 x.day ∧ x.what.size ≤ 9223372036854775807 ∧ I64 x.val
def En.small (x : En) : Prop := x.what.size ≤ 1048576
def cellsEn (x : En) : List Value := [.int .i64 x.day, .string x.what, .int .i64 x.val]
def env (x : En) : Value := .agg #[.int .i64 x.day, .string x.what, .int .i64 x.val]
def ens (l : List En) : List Value := l.flatMap cellsEn
theorem ens_length (l : List En) : (ens l).length = l.length * 3 := flat_length cellsEn 3 (fun _ => rfl) l
theorem ens_get {l : List En} {k : Nat} {x : En} (h : l[k]? = some x) : (ens l)[k * 3]? = some (.int .i64 x.day) ∧ (ens l)[k * 3 + 1]? = some (.string x.what) ∧ (ens l)[k * 3 + 2]? = some (.int .i64 x.val) :=
  ⟨flat_get cellsEn 3 (fun _ => rfl) l k x h 0 (by omega), flat_get cellsEn 3 (fun _ => rfl) l k x h 1 (by omega), flat_get cellsEn 3 (fun _ => rfl) l k x h 2 (by omega)⟩
theorem ens_len {w : World} {B n : Nat} {A : Option Addr} {l : List En} (h : Reads w B 3 A n (ens l)) : l.length = n := by
  have := h.1
  rw [ens_length] at this
  omega
theorem en_at {w : World} {B n k : Nat} {A : Option Addr} {l : List En} (h : Reads w B 3 A n (ens l)) (hk : k < n) :
    ∃ (x : En) (b off : Nat), l[k]? = some x ∧ A = some ⟨b, off, none⟩ ∧ b < B ∧ w.cell? ⟨b, off + k * 3, none⟩ = some (.int .i64 x.day) ∧ w.cell? ⟨b, off + k * 3 + 1, none⟩ = some (.string x.what) ∧ w.cell? ⟨b, off + k * 3 + 2, none⟩ = some (.int .i64 x.val) := by
  obtain ⟨b, off, rfl, hb, hcell⟩ := h.at_ (by omega)
  have hl := ens_len h
  have he : l[k]? = some l[k] := List.getElem?_eq_getElem (by omega)
  obtain ⟨e0, e1, e2⟩ := ens_get he
  exact ⟨_, b, off, he, rfl, hb, hcell _ _ e0, hcell _ _ e1, hcell _ _ e2⟩

section
variable {H : Type} {enc : TypeId × Value → H} {w : World}
end

theorem make_en (n : Nat) (hn : n ≤ 1048576) : ∀ w : World, (Instr.makeSlice 72 (.int .i64 (n : Int)) (.int .i64 (n : Int))).run Tryz.prog w = .ok (.slice (some ⟨w.heap.size, 0, none⟩) n n) (w.alloc (.cells (madeCells #[.int .i64 0, .string ⟨#[]⟩, .int .i64 0] (n * 3)) 111)) :=
  run_make_small 72 111 (.agg #[.int .i64 0, .string ⟨#[]⟩, .int .i64 0]) 3 32 Tryz.underlying72 (by kernel_rfl) (by decide) n hn
/-- What the marks from k0 on make of element i. -/
def enMark (k0 i : Nat) : List Value := [.int .i64 ((k0 : Int) + 3 * (i : Int)), .string (mkText (k0 + 3 * i + 1)), .int .i64 ((k0 : Int) + 3 * (i : Int) + 1 + 1)]
def enMarks (k0 n : Nat) : List Value := (List.range n).flatMap (enMark k0)
theorem enMarks_length (k0 n : Nat) : (enMarks k0 n).length = n * 3 := by rw [enMarks, flat_length (enMark k0) 3 (fun _ => rfl)]; simp
theorem enMarks_get {k0 n k : Nat} (h : k < n) (j : Nat) (hj : j < 3) : (enMarks k0 n)[k * 3 + j]? = (enMark k0 k)[j]? := flat_get (enMark k0) 3 (fun _ => rfl) (List.range n) k k (by simp [h]) j hj
end Go.Proofs.YtgcepomehgedfaaGreatDoor
