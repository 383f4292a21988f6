/- Clients: the tests of one client and of a list of clients. -/
import Derived.Test.YtjmlcobbjpmjpaaDoorSCl
import Derived.Test.YtjmlcobbjpmjpaaDoorName
import Derived.Test.YtjmlcobbjpmjpaaDoorRng
import Derived.Deep.QuietTactic
import Derived.Laws.Cover1
import Derived.IntWalk
set_option linter.unusedVariables false
namespace Go.Proofs.YtjmlcobbjpmjpaaDoor
open Go.RowKit

def okCl (x : Cl) : Bool := isName x.name && (inR x.station 0 9 && (inR x.from_ 0 20000 && (inR x.to_ (x.from_ + 1) 20000 && inR x.quota 0 1000)))
theorem okCl_iff {x : Cl} : okCl x = true ↔ isName x.name = true ∧ (0 ≤ x.station ∧ x.station ≤ 9) ∧ (0 ≤ x.from_ ∧ x.from_ ≤ 20000) ∧ (x.from_ + 1 ≤ x.to_ ∧ x.to_ ≤ 20000) ∧ (0 ≤ x.quota ∧ x.quota ≤ 1000) := by
  simp only [okCl, Bool.and_eq_true, inR_true]
/-- One name stands ahead of another. -/
def sless (a b : ByteArray) : Bool := Op.bytesLess a.toList b.toList
def rowCl (l : List Cl) (i : Nat) : Bool := match l[i]? with
  | none => false
  | some x => okCl x && (decide (i = 0) || (match l[i - 1]? with | none => false | some y => sless y.name x.name))
theorem rowCl_bad {l : List Cl} {i : Nat} {x : Cl} (h : l[i]? = some x) (hx : okCl x = false) : rowCl l i = false := by simp [rowCl, h, hx]
theorem rowCl_zero {l : List Cl} {x : Cl} (h : l[0]? = some x) (hx : okCl x = true) : rowCl l 0 = true := by simp [rowCl, h, hx]
theorem rowCl_ok {l : List Cl} {i : Nat} {x y : Cl} (h : l[i]? = some x) (hx : okCl x = true) (hy : l[i - 1]? = some y) (hd : Op.bytesLess y.name.toList x.name.toList = true) : rowCl l i = true := by simp [rowCl, h, hx, hy, sless, hd]
theorem rowCl_late {l : List Cl} {i : Nat} {x y : Cl} (h : l[i]? = some x) (h0 : 0 < i) (hy : l[i - 1]? = some y) (hd : Op.bytesLess y.name.toList x.name.toList = false) : rowCl l i = false := by
  have : i ≠ 0 := by omega
  simp [rowCl, h, hy, sless, hd, this]
def okCls (l : List Cl) : Bool := (List.range l.length).all (rowCl l) && decide (l.length ≤ 30)
theorem crange_at {n k : Nat} (h : k < n) : (List.range n)[k]? = some k := by simp [h]

end Go.Proofs.YtjmlcobbjpmjpaaDoor
