/- Bookings: two lists compared. -/
import Derived.Test.YtnlghcpidlpfkaaSBk
import Derived.Test.YtnlghcpidlpfkaaRng
import Derived.Laws.StructEq
import Derived.Deep.QuietTactic
set_option linter.unusedVariables false
namespace Go.Proofs.Ytnlghcpidlpfkaa
open Go.RowKit

def sameBk (x y : Bk) : Bool := x.day == y.day && (x.client.toList == y.client.toList && x.amount == y.amount)
def rowSame (l l' : List Bk) (i : Nat) : Bool := match l[i]?, l'[i]? with
  | some x, some y => sameBk x y
  | _, _ => false
theorem rowSame_at {l l' : List Bk} {i : Nat} {x y : Bk} (h : l[i]? = some x) (h' : l'[i]? = some y) : rowSame l l' i = sameBk x y := by simp [rowSame, h, h']
def sameBks (l l' : List Bk) : Bool := decide (l.length = l'.length) && (List.range l.length).all (rowSame l l')
theorem range_at' {n k : Nat} (h : k < n) : (List.range n)[k]? = some k := by simp [h]

end Go.Proofs.Ytnlghcpidlpfkaa
