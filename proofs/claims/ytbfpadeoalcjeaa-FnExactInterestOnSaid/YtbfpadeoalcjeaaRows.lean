/-
  No cell of these rows narrows 'for every input' (looked for: loops, veiled, ifaces, maps, wideKeys, modest, calm, conditions, laid).
  DERIVED. THE GIVEN ROWS OF THIS SEAT. 9 by the template 'for every input the law returns true; each argument reads behind the call as it read before'; 0 by the template 'total and deterministic' (their statements: YtbfpadeoalcjeaaTotals.lean).
  GIVEN WITH THE SEED: the statements are not yours to turn. If you find one false, say at which input.
  Laid BY PROGRAM, IN A SANDBOX (cutbox-rows.mjs): the forced cells as the released guide's own fill.sh prints them over the translation 17bca5b0ed51816b… (all of the seat's roots in one cut). By AI agents, Wed Nov 11 2026. No macro, syntax, notation, axiom, sorry.
-/
import Derived.Test.YtbfpadeoalcjeaaChecked
import GoSem.Claim
import GoSem.ClaimJoined
import GoSem.ClaimMapViews
import Derived.JoinedTies
import Derived.KernelRfl
namespace Go.Proofs.Ytbfpadeoalcjeaa
/- THE CELL 'sum', in the pinned program and in every row, IS THE sha256 OF THE DUMP (.gsa) THAT YtbfpadeoalcjeaaProg.lean LOADS. Nothing in Lean hashes anything: it is a label: what it is worth is what the hold of that sum in a sandbox is worth. -/
noncomputable def Try.pinned : Pinned := { name := "ytbfpadeoalcjeaa", sum := "17bca5b0ed51816b7fa2cd19fe5dd3365abcb3fee01b20928310bcb0c296d958", checked := Try.checked }
namespace Rows
def none {H : Type} : Left H := { results := [], args := [] }

/-- 'laws.FnExactMovingCounts': WHATEVER THE INPUT: true; the input reads as it did. -/
def fnExactMovingCountsSpec : ChangeSpec := { name := "fnExactMovingCounts", fn := fun _ => fun
  | [d1, d2] => { results := [.lit (.bool true)], args := [d1, d2] }
  | _ => none }
def fnExactMovingCountsRow : OpenClaim := { program := "ytbfpadeoalcjeaa", sum := "17bca5b0ed51816b7fa2cd19fe5dd3365abcb3fee01b20928310bcb0c296d958", func := "loop.example/g01046/laws.FnExactMovingCounts", spec := "fnExactMovingCounts", unfollowed := true, recurses := true, apart := false }
def FnExactMovingCountsSaid : Prop := fnExactMovingCountsRow.holds Try.pinned (OpenSpec.ofChange fnExactMovingCountsSpec)

/-- ITS FALSE NEIGHBOUR: 'it returns false'. Refute it at one input. -/
def fnExactMovingCountsWrong : ChangeSpec := { name := "fnExactMovingCounts", fn := fun _ => fun
  | [d1, d2] => { results := [.lit (.bool false)], args := [d1, d2] }
  | _ => none }
def FnExactMovingCountsWrongFalsely : Prop := fnExactMovingCountsRow.holds Try.pinned (OpenSpec.ofChange fnExactMovingCountsWrong)

/-- 'laws.FnExactBusiestWindow': WHATEVER THE INPUT: true; the input reads as it did. -/
def fnExactBusiestWindowSpec : ChangeSpec := { name := "fnExactBusiestWindow", fn := fun _ => fun
  | [d1, d2] => { results := [.lit (.bool true)], args := [d1, d2] }
  | _ => none }
def fnExactBusiestWindowRow : OpenClaim := { program := "ytbfpadeoalcjeaa", sum := "17bca5b0ed51816b7fa2cd19fe5dd3365abcb3fee01b20928310bcb0c296d958", func := "loop.example/g01046/laws.FnExactBusiestWindow", spec := "fnExactBusiestWindow", unfollowed := true, recurses := true, apart := false }
def FnExactBusiestWindowSaid : Prop := fnExactBusiestWindowRow.holds Try.pinned (OpenSpec.ofChange fnExactBusiestWindowSpec)

/-- ITS FALSE NEIGHBOUR: 'it returns false'. Refute it at one input. -/
def fnExactBusiestWindowWrong : ChangeSpec := { name := "fnExactBusiestWindow", fn := fun _ => fun
  | [d1, d2] => { results := [.lit (.bool false)], args := [d1, d2] }
  | _ => none }
def FnExactBusiestWindowWrongFalsely : Prop := fnExactBusiestWindowRow.holds Try.pinned (OpenSpec.ofChange fnExactBusiestWindowWrong)

/-- 'laws.FnExactFewestStationsFor': WHATEVER THE INPUT: true; the input reads as it did. -/
def fnExactFewestStationsForSpec : ChangeSpec := { name := "fnExactFewestStationsFor", fn := fun _ => fun
  | [d1, d2] => { results := [.lit (.bool true)], args := [d1, d2] }
  | _ => none }
def fnExactFewestStationsForRow : OpenClaim := { program := "ytbfpadeoalcjeaa", sum := "17bca5b0ed51816b7fa2cd19fe5dd3365abcb3fee01b20928310bcb0c296d958", func := "loop.example/g01046/laws.FnExactFewestStationsFor", spec := "fnExactFewestStationsFor", unfollowed := true, recurses := true, apart := false }
def FnExactFewestStationsForSaid : Prop := fnExactFewestStationsForRow.holds Try.pinned (OpenSpec.ofChange fnExactFewestStationsForSpec)

/-- ITS FALSE NEIGHBOUR: 'it returns false'. Refute it at one input. -/
def fnExactFewestStationsForWrong : ChangeSpec := { name := "fnExactFewestStationsFor", fn := fun _ => fun
  | [d1, d2] => { results := [.lit (.bool false)], args := [d1, d2] }
  | _ => none }
def FnExactFewestStationsForWrongFalsely : Prop := fnExactFewestStationsForRow.holds Try.pinned (OpenSpec.ofChange fnExactFewestStationsForWrong)

/-- 'laws.FnExactTurnoverOf': WHATEVER THE INPUT: true; the input reads as it did. -/
def fnExactTurnoverOfSpec : ChangeSpec := { name := "fnExactTurnoverOf", fn := fun _ => fun
  | [d1, d2, d3] => { results := [.lit (.bool true)], args := [d1, d2, d3] }
  | _ => none }
def fnExactTurnoverOfRow : OpenClaim := { program := "ytbfpadeoalcjeaa", sum := "17bca5b0ed51816b7fa2cd19fe5dd3365abcb3fee01b20928310bcb0c296d958", func := "loop.example/g01046/laws.FnExactTurnoverOf", spec := "fnExactTurnoverOf", apart := false }
def FnExactTurnoverOfSaid : Prop := fnExactTurnoverOfRow.holds Try.pinned (OpenSpec.ofChange fnExactTurnoverOfSpec)

/-- ITS FALSE NEIGHBOUR: 'it returns false'. Refute it at one input. -/
def fnExactTurnoverOfWrong : ChangeSpec := { name := "fnExactTurnoverOf", fn := fun _ => fun
  | [d1, d2, d3] => { results := [.lit (.bool false)], args := [d1, d2, d3] }
  | _ => none }
def FnExactTurnoverOfWrongFalsely : Prop := fnExactTurnoverOfRow.holds Try.pinned (OpenSpec.ofChange fnExactTurnoverOfWrong)

/-- 'laws.FnExactBalanceOn': WHATEVER THE INPUT: true; the input reads as it did. -/
def fnExactBalanceOnSpec : ChangeSpec := { name := "fnExactBalanceOn", fn := fun _ => fun
  | [d1, d2, d3] => { results := [.lit (.bool true)], args := [d1, d2, d3] }
  | _ => none }
def fnExactBalanceOnRow : OpenClaim := { program := "ytbfpadeoalcjeaa", sum := "17bca5b0ed51816b7fa2cd19fe5dd3365abcb3fee01b20928310bcb0c296d958", func := "loop.example/g01046/laws.FnExactBalanceOn", spec := "fnExactBalanceOn", apart := false }
def FnExactBalanceOnSaid : Prop := fnExactBalanceOnRow.holds Try.pinned (OpenSpec.ofChange fnExactBalanceOnSpec)

/-- ITS FALSE NEIGHBOUR: 'it returns false'. Refute it at one input. -/
def fnExactBalanceOnWrong : ChangeSpec := { name := "fnExactBalanceOn", fn := fun _ => fun
  | [d1, d2, d3] => { results := [.lit (.bool false)], args := [d1, d2, d3] }
  | _ => none }
def FnExactBalanceOnWrongFalsely : Prop := fnExactBalanceOnRow.holds Try.pinned (OpenSpec.ofChange fnExactBalanceOnWrong)

/-- 'laws.FnExactOldestUnpaid': WHATEVER THE INPUT: true; the input reads as it did. -/
def fnExactOldestUnpaidSpec : ChangeSpec := { name := "fnExactOldestUnpaid", fn := fun _ => fun
  | [d1, d2] => { results := [.lit (.bool true)], args := [d1, d2] }
  | _ => none }
def fnExactOldestUnpaidRow : OpenClaim := { program := "ytbfpadeoalcjeaa", sum := "17bca5b0ed51816b7fa2cd19fe5dd3365abcb3fee01b20928310bcb0c296d958", func := "loop.example/g01046/laws.FnExactOldestUnpaid", spec := "fnExactOldestUnpaid", apart := false }
def FnExactOldestUnpaidSaid : Prop := fnExactOldestUnpaidRow.holds Try.pinned (OpenSpec.ofChange fnExactOldestUnpaidSpec)

/-- ITS FALSE NEIGHBOUR: 'it returns false'. Refute it at one input. -/
def fnExactOldestUnpaidWrong : ChangeSpec := { name := "fnExactOldestUnpaid", fn := fun _ => fun
  | [d1, d2] => { results := [.lit (.bool false)], args := [d1, d2] }
  | _ => none }
def FnExactOldestUnpaidWrongFalsely : Prop := fnExactOldestUnpaidRow.holds Try.pinned (OpenSpec.ofChange fnExactOldestUnpaidWrong)

/-- 'laws.FnExactOwedSince': WHATEVER THE INPUT: true; the input reads as it did. -/
def fnExactOwedSinceSpec : ChangeSpec := { name := "fnExactOwedSince", fn := fun _ => fun
  | [d1, d2, d3] => { results := [.lit (.bool true)], args := [d1, d2, d3] }
  | _ => none }
def fnExactOwedSinceRow : OpenClaim := { program := "ytbfpadeoalcjeaa", sum := "17bca5b0ed51816b7fa2cd19fe5dd3365abcb3fee01b20928310bcb0c296d958", func := "loop.example/g01046/laws.FnExactOwedSince", spec := "fnExactOwedSince", apart := false }
def FnExactOwedSinceSaid : Prop := fnExactOwedSinceRow.holds Try.pinned (OpenSpec.ofChange fnExactOwedSinceSpec)

/-- ITS FALSE NEIGHBOUR: 'it returns false'. Refute it at one input. -/
def fnExactOwedSinceWrong : ChangeSpec := { name := "fnExactOwedSince", fn := fun _ => fun
  | [d1, d2, d3] => { results := [.lit (.bool false)], args := [d1, d2, d3] }
  | _ => none }
def FnExactOwedSinceWrongFalsely : Prop := fnExactOwedSinceRow.holds Try.pinned (OpenSpec.ofChange fnExactOwedSinceWrong)

/-- 'laws.FnExactInterestOn': WHATEVER THE INPUT: true; the input reads as it did. -/
def fnExactInterestOnSpec : ChangeSpec := { name := "fnExactInterestOn", fn := fun _ => fun
  | [d1, d2, d3, d4, d5] => { results := [.lit (.bool true)], args := [d1, d2, d3, d4, d5] }
  | _ => none }
def fnExactInterestOnRow : OpenClaim := { program := "ytbfpadeoalcjeaa", sum := "17bca5b0ed51816b7fa2cd19fe5dd3365abcb3fee01b20928310bcb0c296d958", func := "loop.example/g01046/laws.FnExactInterestOn", spec := "fnExactInterestOn", apart := false }
def FnExactInterestOnSaid : Prop := fnExactInterestOnRow.holds Try.pinned (OpenSpec.ofChange fnExactInterestOnSpec)

/-- ITS FALSE NEIGHBOUR: 'it returns false'. Refute it at one input. -/
def fnExactInterestOnWrong : ChangeSpec := { name := "fnExactInterestOn", fn := fun _ => fun
  | [d1, d2, d3, d4, d5] => { results := [.lit (.bool false)], args := [d1, d2, d3, d4, d5] }
  | _ => none }
def FnExactInterestOnWrongFalsely : Prop := fnExactInterestOnRow.holds Try.pinned (OpenSpec.ofChange fnExactInterestOnWrong)

/-- 'laws.FnExactBookClient': WHATEVER THE INPUT: true; the input reads as it did. -/
def fnExactBookClientSpec : ChangeSpec := { name := "fnExactBookClient", fn := fun _ => fun
  | [d1, d2] => { results := [.lit (.bool true)], args := [d1, d2] }
  | _ => none }
def fnExactBookClientRow : OpenClaim := { program := "ytbfpadeoalcjeaa", sum := "17bca5b0ed51816b7fa2cd19fe5dd3365abcb3fee01b20928310bcb0c296d958", func := "loop.example/g01046/laws.FnExactBookClient", spec := "fnExactBookClient", inPlace := ["slices.overlaps[loop.example/g01046/impl.Booking]"], unfollowed := true, recurses := true, apart := false }
def FnExactBookClientSaid : Prop := fnExactBookClientRow.holds Try.pinned (OpenSpec.ofChange fnExactBookClientSpec)

/-- ITS FALSE NEIGHBOUR: 'it returns false'. Refute it at one input. -/
def fnExactBookClientWrong : ChangeSpec := { name := "fnExactBookClient", fn := fun _ => fun
  | [d1, d2] => { results := [.lit (.bool false)], args := [d1, d2] }
  | _ => none }
def FnExactBookClientWrongFalsely : Prop := fnExactBookClientRow.holds Try.pinned (OpenSpec.ofChange fnExactBookClientWrong)

/- THE SECOND FORM. 'bulk': how many values and letters a reading holds, each counted each time it is reached (what is shared counts as often as it is met; a slice's spare places count too). A statement '..UptoSaid' is the law's where the arguments, and the package variables that the reading takes, are together of bulk at most 1048576: NARROWER than '..Said'. Prove '..Said' where nothing that the law and all that it calls make is longer than what came in: it says more and counts as full. Else prove '..UptoSaid'. A law counts once. -/
mutual
def uptoBulk {H : Type} : DataW H → Nat
  | .lit (.string bytes) => bytes.length + 1
  | .lit _ => 1
  | .nil => 1
  | .ptr d => uptoBulk d + 1
  | .slice elems spare => uptoBulkAll elems + uptoBulkAll spare + 1
  | .agg parts => uptoBulkAll parts + 1
  | .iface _ d => uptoBulk d + 1
  | .map entries => uptoBulkEntries entries + 1
  | .held _ => 1
def uptoBulkAll {H : Type} : List (DataW H) → Nat
  | [] => 0
  | d :: r => uptoBulk d + uptoBulkAll r
def uptoBulkEntries {H : Type} : List (Lit × DataW H) → Nat
  | [] => 0
  | x :: r => uptoBulkEntry x + uptoBulkEntries r
def uptoBulkEntry {H : Type} : Lit × DataW H → Nat
  | (.string bytes, d) => bytes.length + uptoBulk d + 1
  | (_, d) => uptoBulk d + 1
 end
def uptoSmall : (H : Type) → List (DataW H) → Bool := fun _ ds => decide (uptoBulkAll ds ≤ 1048576)
def OpenSpec.upto (s : _root_.Go.ChangeSpec) : _root_.Go.OpenSpec := { _root_.Go.OpenSpec.ofChange s with cond := some uptoSmall }

/-- 'laws.FnExactMovingCounts', WHERE WHAT IT READS IS OF BULK AT MOST 1048576: true; the input reads as it did. -/
def fnExactMovingCountsUptoRow : OpenClaim := { program := "ytbfpadeoalcjeaa", sum := "17bca5b0ed51816b7fa2cd19fe5dd3365abcb3fee01b20928310bcb0c296d958", func := "loop.example/g01046/laws.FnExactMovingCounts", spec := "fnExactMovingCounts", unfollowed := true, recurses := true, apart := false, narrowed := true }
def FnExactMovingCountsUptoSaid : Prop := fnExactMovingCountsUptoRow.holds Try.pinned (OpenSpec.upto fnExactMovingCountsSpec)

/-- 'laws.FnExactBusiestWindow', WHERE WHAT IT READS IS OF BULK AT MOST 1048576: true; the input reads as it did. -/
def fnExactBusiestWindowUptoRow : OpenClaim := { program := "ytbfpadeoalcjeaa", sum := "17bca5b0ed51816b7fa2cd19fe5dd3365abcb3fee01b20928310bcb0c296d958", func := "loop.example/g01046/laws.FnExactBusiestWindow", spec := "fnExactBusiestWindow", unfollowed := true, recurses := true, apart := false, narrowed := true }
def FnExactBusiestWindowUptoSaid : Prop := fnExactBusiestWindowUptoRow.holds Try.pinned (OpenSpec.upto fnExactBusiestWindowSpec)

/-- 'laws.FnExactFewestStationsFor', WHERE WHAT IT READS IS OF BULK AT MOST 1048576: true; the input reads as it did. -/
def fnExactFewestStationsForUptoRow : OpenClaim := { program := "ytbfpadeoalcjeaa", sum := "17bca5b0ed51816b7fa2cd19fe5dd3365abcb3fee01b20928310bcb0c296d958", func := "loop.example/g01046/laws.FnExactFewestStationsFor", spec := "fnExactFewestStationsFor", unfollowed := true, recurses := true, apart := false, narrowed := true }
def FnExactFewestStationsForUptoSaid : Prop := fnExactFewestStationsForUptoRow.holds Try.pinned (OpenSpec.upto fnExactFewestStationsForSpec)

/-- 'laws.FnExactTurnoverOf', WHERE WHAT IT READS IS OF BULK AT MOST 1048576: true; the input reads as it did. -/
def fnExactTurnoverOfUptoRow : OpenClaim := { program := "ytbfpadeoalcjeaa", sum := "17bca5b0ed51816b7fa2cd19fe5dd3365abcb3fee01b20928310bcb0c296d958", func := "loop.example/g01046/laws.FnExactTurnoverOf", spec := "fnExactTurnoverOf", apart := false, narrowed := true }
def FnExactTurnoverOfUptoSaid : Prop := fnExactTurnoverOfUptoRow.holds Try.pinned (OpenSpec.upto fnExactTurnoverOfSpec)

/-- 'laws.FnExactBalanceOn', WHERE WHAT IT READS IS OF BULK AT MOST 1048576: true; the input reads as it did. -/
def fnExactBalanceOnUptoRow : OpenClaim := { program := "ytbfpadeoalcjeaa", sum := "17bca5b0ed51816b7fa2cd19fe5dd3365abcb3fee01b20928310bcb0c296d958", func := "loop.example/g01046/laws.FnExactBalanceOn", spec := "fnExactBalanceOn", apart := false, narrowed := true }
def FnExactBalanceOnUptoSaid : Prop := fnExactBalanceOnUptoRow.holds Try.pinned (OpenSpec.upto fnExactBalanceOnSpec)

/-- 'laws.FnExactOldestUnpaid', WHERE WHAT IT READS IS OF BULK AT MOST 1048576: true; the input reads as it did. -/
def fnExactOldestUnpaidUptoRow : OpenClaim := { program := "ytbfpadeoalcjeaa", sum := "17bca5b0ed51816b7fa2cd19fe5dd3365abcb3fee01b20928310bcb0c296d958", func := "loop.example/g01046/laws.FnExactOldestUnpaid", spec := "fnExactOldestUnpaid", apart := false, narrowed := true }
def FnExactOldestUnpaidUptoSaid : Prop := fnExactOldestUnpaidUptoRow.holds Try.pinned (OpenSpec.upto fnExactOldestUnpaidSpec)

/-- 'laws.FnExactOwedSince', WHERE WHAT IT READS IS OF BULK AT MOST 1048576: true; the input reads as it did. -/
def fnExactOwedSinceUptoRow : OpenClaim := { program := "ytbfpadeoalcjeaa", sum := "17bca5b0ed51816b7fa2cd19fe5dd3365abcb3fee01b20928310bcb0c296d958", func := "loop.example/g01046/laws.FnExactOwedSince", spec := "fnExactOwedSince", apart := false, narrowed := true }
def FnExactOwedSinceUptoSaid : Prop := fnExactOwedSinceUptoRow.holds Try.pinned (OpenSpec.upto fnExactOwedSinceSpec)

/-- 'laws.FnExactInterestOn', WHERE WHAT IT READS IS OF BULK AT MOST 1048576: true; the input reads as it did. -/
def fnExactInterestOnUptoRow : OpenClaim := { program := "ytbfpadeoalcjeaa", sum := "17bca5b0ed51816b7fa2cd19fe5dd3365abcb3fee01b20928310bcb0c296d958", func := "loop.example/g01046/laws.FnExactInterestOn", spec := "fnExactInterestOn", apart := false, narrowed := true }
def FnExactInterestOnUptoSaid : Prop := fnExactInterestOnUptoRow.holds Try.pinned (OpenSpec.upto fnExactInterestOnSpec)

/-- 'laws.FnExactBookClient', WHERE WHAT IT READS IS OF BULK AT MOST 1048576: true; the input reads as it did. -/
def fnExactBookClientUptoRow : OpenClaim := { program := "ytbfpadeoalcjeaa", sum := "17bca5b0ed51816b7fa2cd19fe5dd3365abcb3fee01b20928310bcb0c296d958", func := "loop.example/g01046/laws.FnExactBookClient", spec := "fnExactBookClient", inPlace := ["slices.overlaps[loop.example/g01046/impl.Booking]"], unfollowed := true, recurses := true, apart := false, narrowed := true }
def FnExactBookClientUptoSaid : Prop := fnExactBookClientUptoRow.holds Try.pinned (OpenSpec.upto fnExactBookClientSpec)

end Rows
end Go.Proofs.Ytbfpadeoalcjeaa
