/- Client values: their cells, lists of them, the law's copies, sizes, comparisons and marks. -/
import Derived.Test.YtjmlcobbjpmjpaaDoorProg
import Derived.Test.YtjmlcobbjpmjpaaDoorMem
import Derived.Test.YtjmlcobbjpmjpaaDoorOpen
import Derived.Test.YtjmlcobbjpmjpaaDoorMark
import Derived.Deep.RegionHeld3
import Derived.BigQuiet
set_option linter.unusedVariables false
namespace Go.Proofs.YtjmlcobbjpmjpaaDoor
open Go.RowKit Go.ChangeShapes Go.WideShapes Go.Deep

structure Cl where
  name : ByteArray
  station : Int
  from_ : Int
  to_ : Int
  quota : Int

def Cl.good (x : Cl) : Prop := x.name.size ≤ 9223372036854775807 ∧ I64 x.station ∧ I64 x.from_ ∧ I64 x.to_ ∧ I64 x.quota
def Cl.small (x : Cl) : Prop := x.name.size ≤ 1048576
def cellsCl (x : Cl) : List Value := [.string x.name, .int .i64 x.station, .int .i64 x.from_, .int .i64 x.to_, .int .i64 x.quota]
def clv (x : Cl) : Value := .agg #[.string x.name, .int .i64 x.station, .int .i64 x.from_, .int .i64 x.to_, .int .i64 x.quota]
def cls (l : List Cl) : List Value := l.flatMap cellsCl
theorem cls_length (l : List Cl) : (cls l).length = l.length * 5 := flat_length cellsCl 5 (fun _ => rfl) l
theorem cls_get {l : List Cl} {k : Nat} {x : Cl} (h : l[k]? = some x) : (cls l)[k * 5]? = some (.string x.name) ∧ (cls l)[k * 5 + 1]? = some (.int .i64 x.station) ∧ (cls l)[k * 5 + 2]? = some (.int .i64 x.from_) ∧ (cls l)[k * 5 + 3]? = some (.int .i64 x.to_) ∧ (cls l)[k * 5 + 4]? = some (.int .i64 x.quota) :=
  ⟨flat_get cellsCl 5 (fun _ => rfl) l k x h 0 (by omega), flat_get cellsCl 5 (fun _ => rfl) l k x h 1 (by omega), flat_get cellsCl 5 (fun _ => rfl) l k x h 2 (by omega), flat_get cellsCl 5 (fun _ => rfl) l k x h 3 (by omega), flat_get cellsCl 5 (fun _ => rfl) l k x h 4 (by omega)⟩
theorem cls_len {w : World} {B n : Nat} {A : Option Addr} {l : List Cl} (h : Reads w B 5 A n (cls l)) : l.length = n := by
  have := h.1
  rw [cls_length] at this
  omega
theorem cl_at {w : World} {B n k : Nat} {A : Option Addr} {l : List Cl} (h : Reads w B 5 A n (cls l)) (hk : k < n) :
    ∃ (x : Cl) (b off : Nat), l[k]? = some x ∧ A = some ⟨b, off, none⟩ ∧ b < B ∧ w.cell? ⟨b, off + k * 5, none⟩ = some (.string x.name) ∧ w.cell? ⟨b, off + k * 5 + 1, none⟩ = some (.int .i64 x.station) ∧ w.cell? ⟨b, off + k * 5 + 2, none⟩ = some (.int .i64 x.from_) ∧ w.cell? ⟨b, off + k * 5 + 3, none⟩ = some (.int .i64 x.to_) ∧ w.cell? ⟨b, off + k * 5 + 4, none⟩ = some (.int .i64 x.quota) := by
  obtain ⟨b, off, rfl, hb, hcell⟩ := h.at_ (by omega)
  have hl := cls_len h
  have he : l[k]? = some l[k] := List.getElem?_eq_getElem (by omega)
  obtain ⟨e0, e1, e2, e3, e4⟩ := cls_get he
  exact ⟨_, b, off, he, rfl, hb, hcell _ _ e0, hcell _ _ e1, hcell _ _ e2, hcell _ _ e3, hcell _ _ e4⟩

section
variable {H : Type} {enc : TypeId × Value → H} {w : World}
end

/-- What the marks from k0 on make of element i. -/
def clMark (k0 i : Nat) : List Value := [.string (mkText (k0 + 5 * i)), .int .i64 ((k0 : Int) + 5 * (i : Int) + 1), .int .i64 ((k0 : Int) + 5 * (i : Int) + 1 + 1), .int .i64 ((k0 : Int) + 5 * (i : Int) + 1 + 1 + 1), .int .i64 ((k0 : Int) + 5 * (i : Int) + 1 + 1 + 1 + 1)]
def clMarks (k0 n : Nat) : List Value := (List.range n).flatMap (clMark k0)
theorem clMarks_length (k0 n : Nat) : (clMarks k0 n).length = n * 5 := by rw [clMarks, flat_length (clMark k0) 5 (fun _ => rfl)]; simp
theorem clMarks_get {k0 n k : Nat} (h : k < n) (j : Nat) (hj : j < 5) : (clMarks k0 n)[k * 5 + j]? = (clMark k0 k)[j]? := flat_get (clMark k0) 5 (fun _ => rfl) (List.range n) k k (by simp [h]) j hj
end Go.Proofs.YtjmlcobbjpmjpaaDoor
