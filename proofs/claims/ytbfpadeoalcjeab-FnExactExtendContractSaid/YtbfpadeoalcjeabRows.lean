/-
  No cell of these rows narrows 'for every input' (looked for: loops, veiled, ifaces, maps, wideKeys, modest, calm, conditions, laid).
  DERIVED. THE GIVEN ROWS OF THIS SEAT. 9 by the template 'for every input the law returns true; each argument reads behind the call as it read before'; 0 by the template 'total and deterministic' (their statements: YtbfpadeoalcjeabTotals.lean).
  GIVEN WITH THE SEED: the statements are not yours to turn. If you find one false, say at which input.
  Laid BY PROGRAM, IN A SANDBOX (cutbox-rows.mjs): the forced cells as the released guide's own fill.sh prints them over the translation e161488a2a7a4dc1… (all of the seat's roots in one cut). By AI agents, Wed Nov 11 2026. No macro, syntax, notation, axiom, sorry.
-/
import Derived.Test.YtbfpadeoalcjeabChecked
import GoSem.Claim
import GoSem.ClaimJoined
import GoSem.ClaimMapViews
import Derived.JoinedTies
import Derived.KernelRfl
namespace Go.Proofs.Ytbfpadeoalcjeab
/- THE CELL 'sum', in the pinned program and in every row, IS THE sha256 OF THE DUMP (.gsa) THAT YtbfpadeoalcjeabProg.lean LOADS. Nothing in Lean hashes anything: it is a label: what it is worth is what the hold of that sum in a sandbox is worth. -/
noncomputable def Try.pinned : Pinned := { name := "ytbfpadeoalcjeab", sum := "e161488a2a7a4dc10a7e579a010d48259887a16bd182bf82805947a035705193", checked := Try.checked }
namespace Rows
def none {H : Type} : Left H := { results := [], args := [] }

/-- 'laws.FnExactQuotaOn': WHATEVER THE INPUT: true; the input reads as it did. -/
def fnExactQuotaOnSpec : ChangeSpec := { name := "fnExactQuotaOn", fn := fun _ => fun
  | [d1, d2, d3] => { results := [.lit (.bool true)], args := [d1, d2, d3] }
  | _ => none }
def fnExactQuotaOnRow : OpenClaim := { program := "ytbfpadeoalcjeab", sum := "e161488a2a7a4dc10a7e579a010d48259887a16bd182bf82805947a035705193", func := "loop.example/g01046/laws.FnExactQuotaOn", spec := "fnExactQuotaOn", apart := false }
def FnExactQuotaOnSaid : Prop := fnExactQuotaOnRow.holds Try.pinned (OpenSpec.ofChange fnExactQuotaOnSpec)

/-- ITS FALSE NEIGHBOUR: 'it returns false'. Refute it at one input. -/
def fnExactQuotaOnWrong : ChangeSpec := { name := "fnExactQuotaOn", fn := fun _ => fun
  | [d1, d2, d3] => { results := [.lit (.bool false)], args := [d1, d2, d3] }
  | _ => none }
def FnExactQuotaOnWrongFalsely : Prop := fnExactQuotaOnRow.holds Try.pinned (OpenSpec.ofChange fnExactQuotaOnWrong)

/-- 'laws.FnExactBusiestStation': WHATEVER THE INPUT: true; the input reads as it did. -/
def fnExactBusiestStationSpec : ChangeSpec := { name := "fnExactBusiestStation", fn := fun _ => fun
  | [d1, d2] => { results := [.lit (.bool true)], args := [d1, d2] }
  | _ => none }
def fnExactBusiestStationRow : OpenClaim := { program := "ytbfpadeoalcjeab", sum := "e161488a2a7a4dc10a7e579a010d48259887a16bd182bf82805947a035705193", func := "loop.example/g01046/laws.FnExactBusiestStation", spec := "fnExactBusiestStation", apart := false }
def FnExactBusiestStationSaid : Prop := fnExactBusiestStationRow.holds Try.pinned (OpenSpec.ofChange fnExactBusiestStationSpec)

/-- ITS FALSE NEIGHBOUR: 'it returns false'. Refute it at one input. -/
def fnExactBusiestStationWrong : ChangeSpec := { name := "fnExactBusiestStation", fn := fun _ => fun
  | [d1, d2] => { results := [.lit (.bool false)], args := [d1, d2] }
  | _ => none }
def FnExactBusiestStationWrongFalsely : Prop := fnExactBusiestStationRow.holds Try.pinned (OpenSpec.ofChange fnExactBusiestStationWrong)

/-- 'laws.FnExactClientOf': WHATEVER THE INPUT: true; the input reads as it did. -/
def fnExactClientOfSpec : ChangeSpec := { name := "fnExactClientOf", fn := fun _ => fun
  | [d1, d2] => { results := [.lit (.bool true)], args := [d1, d2] }
  | _ => none }
def fnExactClientOfRow : OpenClaim := { program := "ytbfpadeoalcjeab", sum := "e161488a2a7a4dc10a7e579a010d48259887a16bd182bf82805947a035705193", func := "loop.example/g01046/laws.FnExactClientOf", spec := "fnExactClientOf", unfollowed := true, recurses := true, apart := false }
def FnExactClientOfSaid : Prop := fnExactClientOfRow.holds Try.pinned (OpenSpec.ofChange fnExactClientOfSpec)

/-- ITS FALSE NEIGHBOUR: 'it returns false'. Refute it at one input. -/
def fnExactClientOfWrong : ChangeSpec := { name := "fnExactClientOf", fn := fun _ => fun
  | [d1, d2] => { results := [.lit (.bool false)], args := [d1, d2] }
  | _ => none }
def FnExactClientOfWrongFalsely : Prop := fnExactClientOfRow.holds Try.pinned (OpenSpec.ofChange fnExactClientOfWrong)

/-- 'laws.FnExactEndsBetween': WHATEVER THE INPUT: true; the input reads as it did. -/
def fnExactEndsBetweenSpec : ChangeSpec := { name := "fnExactEndsBetween", fn := fun _ => fun
  | [d1, d2, d3] => { results := [.lit (.bool true)], args := [d1, d2, d3] }
  | _ => none }
def fnExactEndsBetweenRow : OpenClaim := { program := "ytbfpadeoalcjeab", sum := "e161488a2a7a4dc10a7e579a010d48259887a16bd182bf82805947a035705193", func := "loop.example/g01046/laws.FnExactEndsBetween", spec := "fnExactEndsBetween", unfollowed := true, recurses := true, apart := false }
def FnExactEndsBetweenSaid : Prop := fnExactEndsBetweenRow.holds Try.pinned (OpenSpec.ofChange fnExactEndsBetweenSpec)

/-- ITS FALSE NEIGHBOUR: 'it returns false'. Refute it at one input. -/
def fnExactEndsBetweenWrong : ChangeSpec := { name := "fnExactEndsBetween", fn := fun _ => fun
  | [d1, d2, d3] => { results := [.lit (.bool false)], args := [d1, d2, d3] }
  | _ => none }
def FnExactEndsBetweenWrongFalsely : Prop := fnExactEndsBetweenRow.holds Try.pinned (OpenSpec.ofChange fnExactEndsBetweenWrong)

/-- 'laws.FnExactActiveOn': WHATEVER THE INPUT: true; the input reads as it did. -/
def fnExactActiveOnSpec : ChangeSpec := { name := "fnExactActiveOn", fn := fun _ => fun
  | [d1, d2] => { results := [.lit (.bool true)], args := [d1, d2] }
  | _ => none }
def fnExactActiveOnRow : OpenClaim := { program := "ytbfpadeoalcjeab", sum := "e161488a2a7a4dc10a7e579a010d48259887a16bd182bf82805947a035705193", func := "loop.example/g01046/laws.FnExactActiveOn", spec := "fnExactActiveOn", unfollowed := true, recurses := true, apart := false }
def FnExactActiveOnSaid : Prop := fnExactActiveOnRow.holds Try.pinned (OpenSpec.ofChange fnExactActiveOnSpec)

/-- ITS FALSE NEIGHBOUR: 'it returns false'. Refute it at one input. -/
def fnExactActiveOnWrong : ChangeSpec := { name := "fnExactActiveOn", fn := fun _ => fun
  | [d1, d2] => { results := [.lit (.bool false)], args := [d1, d2] }
  | _ => none }
def FnExactActiveOnWrongFalsely : Prop := fnExactActiveOnRow.holds Try.pinned (OpenSpec.ofChange fnExactActiveOnWrong)

/-- 'laws.FnExactLeftOfQuota': WHATEVER THE INPUT: true; the input reads as it did. -/
def fnExactLeftOfQuotaSpec : ChangeSpec := { name := "fnExactLeftOfQuota", fn := fun _ => fun
  | [d1, d2, d3, d4] => { results := [.lit (.bool true)], args := [d1, d2, d3, d4] }
  | _ => none }
def fnExactLeftOfQuotaRow : OpenClaim := { program := "ytbfpadeoalcjeab", sum := "e161488a2a7a4dc10a7e579a010d48259887a16bd182bf82805947a035705193", func := "loop.example/g01046/laws.FnExactLeftOfQuota", spec := "fnExactLeftOfQuota", unfollowed := true, recurses := true, apart := false }
def FnExactLeftOfQuotaSaid : Prop := fnExactLeftOfQuotaRow.holds Try.pinned (OpenSpec.ofChange fnExactLeftOfQuotaSpec)

/-- ITS FALSE NEIGHBOUR: 'it returns false'. Refute it at one input. -/
def fnExactLeftOfQuotaWrong : ChangeSpec := { name := "fnExactLeftOfQuota", fn := fun _ => fun
  | [d1, d2, d3, d4] => { results := [.lit (.bool false)], args := [d1, d2, d3, d4] }
  | _ => none }
def FnExactLeftOfQuotaWrongFalsely : Prop := fnExactLeftOfQuotaRow.holds Try.pinned (OpenSpec.ofChange fnExactLeftOfQuotaWrong)

/-- 'laws.FnExactExtendContract': WHATEVER THE INPUT: true; the input reads as it did. -/
def fnExactExtendContractSpec : ChangeSpec := { name := "fnExactExtendContract", fn := fun _ => fun
  | [d1, d2, d3] => { results := [.lit (.bool true)], args := [d1, d2, d3] }
  | _ => none }
def fnExactExtendContractRow : OpenClaim := { program := "ytbfpadeoalcjeab", sum := "e161488a2a7a4dc10a7e579a010d48259887a16bd182bf82805947a035705193", func := "loop.example/g01046/laws.FnExactExtendContract", spec := "fnExactExtendContract", unfollowed := true, recurses := true, apart := false }
def FnExactExtendContractSaid : Prop := fnExactExtendContractRow.holds Try.pinned (OpenSpec.ofChange fnExactExtendContractSpec)

/-- ITS FALSE NEIGHBOUR: 'it returns false'. Refute it at one input. -/
def fnExactExtendContractWrong : ChangeSpec := { name := "fnExactExtendContract", fn := fun _ => fun
  | [d1, d2, d3] => { results := [.lit (.bool false)], args := [d1, d2, d3] }
  | _ => none }
def FnExactExtendContractWrongFalsely : Prop := fnExactExtendContractRow.holds Try.pinned (OpenSpec.ofChange fnExactExtendContractWrong)

/-- 'laws.FnExactAddClient': WHATEVER THE INPUT: true; the input reads as it did. -/
def fnExactAddClientSpec : ChangeSpec := { name := "fnExactAddClient", fn := fun _ => fun
  | [d1, d2] => { results := [.lit (.bool true)], args := [d1, d2] }
  | _ => none }
def fnExactAddClientRow : OpenClaim := { program := "ytbfpadeoalcjeab", sum := "e161488a2a7a4dc10a7e579a010d48259887a16bd182bf82805947a035705193", func := "loop.example/g01046/laws.FnExactAddClient", spec := "fnExactAddClient", inPlace := ["slices.overlaps[loop.example/g01046/impl.Client]"], unfollowed := true, recurses := true, apart := false }
def FnExactAddClientSaid : Prop := fnExactAddClientRow.holds Try.pinned (OpenSpec.ofChange fnExactAddClientSpec)

/-- ITS FALSE NEIGHBOUR: 'it returns false'. Refute it at one input. -/
def fnExactAddClientWrong : ChangeSpec := { name := "fnExactAddClient", fn := fun _ => fun
  | [d1, d2] => { results := [.lit (.bool false)], args := [d1, d2] }
  | _ => none }
def FnExactAddClientWrongFalsely : Prop := fnExactAddClientRow.holds Try.pinned (OpenSpec.ofChange fnExactAddClientWrong)

/-- 'laws.FnExactSameDesk': WHATEVER THE INPUT: true; the input reads as it did. -/
def fnExactSameDeskSpec : ChangeSpec := { name := "fnExactSameDesk", fn := fun _ => fun
  | [d1, d2] => { results := [.lit (.bool true)], args := [d1, d2] }
  | _ => none }
def fnExactSameDeskRow : OpenClaim := { program := "ytbfpadeoalcjeab", sum := "e161488a2a7a4dc10a7e579a010d48259887a16bd182bf82805947a035705193", func := "loop.example/g01046/laws.FnExactSameDesk", spec := "fnExactSameDesk", unfollowed := true, recurses := true, apart := false }
def FnExactSameDeskSaid : Prop := fnExactSameDeskRow.holds Try.pinned (OpenSpec.ofChange fnExactSameDeskSpec)

/-- ITS FALSE NEIGHBOUR: 'it returns false'. Refute it at one input. -/
def fnExactSameDeskWrong : ChangeSpec := { name := "fnExactSameDesk", fn := fun _ => fun
  | [d1, d2] => { results := [.lit (.bool false)], args := [d1, d2] }
  | _ => none }
def FnExactSameDeskWrongFalsely : Prop := fnExactSameDeskRow.holds Try.pinned (OpenSpec.ofChange fnExactSameDeskWrong)

/- THE SECOND FORM. 'bulk': how many values and letters a reading holds, each counted each time it is reached (what is shared counts as often as it is met; a slice's spare places count too). A statement '..UptoSaid' is the law's where the arguments, and the package variables that the reading takes, are together of bulk at most 1048576: NARROWER than '..Said'. Prove '..Said' where nothing that the law and all that it calls make is longer than what came in: it says more and counts as full. Else prove '..UptoSaid'. A law counts once. -/
mutual
def uptoBulk {H : Type} : DataW H → Nat
  | .lit (.string bytes) => bytes.length + 1
  | .lit _ => 1
  | .nil => 1
  | .ptr d => uptoBulk d + 1
  | .slice elems spare => uptoBulkAll elems + uptoBulkAll spare + 1
  | .agg parts => uptoBulkAll parts + 1
  | .iface _ d => uptoBulk d + 1
  | .map entries => uptoBulkEntries entries + 1
  | .held _ => 1
def uptoBulkAll {H : Type} : List (DataW H) → Nat
  | [] => 0
  | d :: r => uptoBulk d + uptoBulkAll r
def uptoBulkEntries {H : Type} : List (Lit × DataW H) → Nat
  | [] => 0
  | x :: r => uptoBulkEntry x + uptoBulkEntries r
def uptoBulkEntry {H : Type} : Lit × DataW H → Nat
  | (.string bytes, d) => bytes.length + uptoBulk d + 1
  | (_, d) => uptoBulk d + 1
 end
def uptoSmall : (H : Type) → List (DataW H) → Bool := fun _ ds => decide (uptoBulkAll ds ≤ 1048576)
def OpenSpec.upto (s : _root_.Go.ChangeSpec) : _root_.Go.OpenSpec := { _root_.Go.OpenSpec.ofChange s with cond := some uptoSmall }

/-- 'laws.FnExactQuotaOn', WHERE WHAT IT READS IS OF BULK AT MOST 1048576: true; the input reads as it did. -/
def fnExactQuotaOnUptoRow : OpenClaim := { program := "ytbfpadeoalcjeab", sum := "e161488a2a7a4dc10a7e579a010d48259887a16bd182bf82805947a035705193", func := "loop.example/g01046/laws.FnExactQuotaOn", spec := "fnExactQuotaOn", apart := false, narrowed := true }
def FnExactQuotaOnUptoSaid : Prop := fnExactQuotaOnUptoRow.holds Try.pinned (OpenSpec.upto fnExactQuotaOnSpec)

/-- 'laws.FnExactBusiestStation', WHERE WHAT IT READS IS OF BULK AT MOST 1048576: true; the input reads as it did. -/
def fnExactBusiestStationUptoRow : OpenClaim := { program := "ytbfpadeoalcjeab", sum := "e161488a2a7a4dc10a7e579a010d48259887a16bd182bf82805947a035705193", func := "loop.example/g01046/laws.FnExactBusiestStation", spec := "fnExactBusiestStation", apart := false, narrowed := true }
def FnExactBusiestStationUptoSaid : Prop := fnExactBusiestStationUptoRow.holds Try.pinned (OpenSpec.upto fnExactBusiestStationSpec)

/-- 'laws.FnExactClientOf', WHERE WHAT IT READS IS OF BULK AT MOST 1048576: true; the input reads as it did. -/
def fnExactClientOfUptoRow : OpenClaim := { program := "ytbfpadeoalcjeab", sum := "e161488a2a7a4dc10a7e579a010d48259887a16bd182bf82805947a035705193", func := "loop.example/g01046/laws.FnExactClientOf", spec := "fnExactClientOf", unfollowed := true, recurses := true, apart := false, narrowed := true }
def FnExactClientOfUptoSaid : Prop := fnExactClientOfUptoRow.holds Try.pinned (OpenSpec.upto fnExactClientOfSpec)

/-- 'laws.FnExactEndsBetween', WHERE WHAT IT READS IS OF BULK AT MOST 1048576: true; the input reads as it did. -/
def fnExactEndsBetweenUptoRow : OpenClaim := { program := "ytbfpadeoalcjeab", sum := "e161488a2a7a4dc10a7e579a010d48259887a16bd182bf82805947a035705193", func := "loop.example/g01046/laws.FnExactEndsBetween", spec := "fnExactEndsBetween", unfollowed := true, recurses := true, apart := false, narrowed := true }
def FnExactEndsBetweenUptoSaid : Prop := fnExactEndsBetweenUptoRow.holds Try.pinned (OpenSpec.upto fnExactEndsBetweenSpec)

/-- 'laws.FnExactActiveOn', WHERE WHAT IT READS IS OF BULK AT MOST 1048576: true; the input reads as it did. -/
def fnExactActiveOnUptoRow : OpenClaim := { program := "ytbfpadeoalcjeab", sum := "e161488a2a7a4dc10a7e579a010d48259887a16bd182bf82805947a035705193", func := "loop.example/g01046/laws.FnExactActiveOn", spec := "fnExactActiveOn", unfollowed := true, recurses := true, apart := false, narrowed := true }
def FnExactActiveOnUptoSaid : Prop := fnExactActiveOnUptoRow.holds Try.pinned (OpenSpec.upto fnExactActiveOnSpec)

/-- 'laws.FnExactLeftOfQuota', WHERE WHAT IT READS IS OF BULK AT MOST 1048576: true; the input reads as it did. -/
def fnExactLeftOfQuotaUptoRow : OpenClaim := { program := "ytbfpadeoalcjeab", sum := "e161488a2a7a4dc10a7e579a010d48259887a16bd182bf82805947a035705193", func := "loop.example/g01046/laws.FnExactLeftOfQuota", spec := "fnExactLeftOfQuota", unfollowed := true, recurses := true, apart := false, narrowed := true }
def FnExactLeftOfQuotaUptoSaid : Prop := fnExactLeftOfQuotaUptoRow.holds Try.pinned (OpenSpec.upto fnExactLeftOfQuotaSpec)

/-- 'laws.FnExactExtendContract', WHERE WHAT IT READS IS OF BULK AT MOST 1048576: true; the input reads as it did. -/
def fnExactExtendContractUptoRow : OpenClaim := { program := "ytbfpadeoalcjeab", sum := "e161488a2a7a4dc10a7e579a010d48259887a16bd182bf82805947a035705193", func := "loop.example/g01046/laws.FnExactExtendContract", spec := "fnExactExtendContract", unfollowed := true, recurses := true, apart := false, narrowed := true }
def FnExactExtendContractUptoSaid : Prop := fnExactExtendContractUptoRow.holds Try.pinned (OpenSpec.upto fnExactExtendContractSpec)

/-- 'laws.FnExactAddClient', WHERE WHAT IT READS IS OF BULK AT MOST 1048576: true; the input reads as it did. -/
def fnExactAddClientUptoRow : OpenClaim := { program := "ytbfpadeoalcjeab", sum := "e161488a2a7a4dc10a7e579a010d48259887a16bd182bf82805947a035705193", func := "loop.example/g01046/laws.FnExactAddClient", spec := "fnExactAddClient", inPlace := ["slices.overlaps[loop.example/g01046/impl.Client]"], unfollowed := true, recurses := true, apart := false, narrowed := true }
def FnExactAddClientUptoSaid : Prop := fnExactAddClientUptoRow.holds Try.pinned (OpenSpec.upto fnExactAddClientSpec)

/-- 'laws.FnExactSameDesk', WHERE WHAT IT READS IS OF BULK AT MOST 1048576: true; the input reads as it did. -/
def fnExactSameDeskUptoRow : OpenClaim := { program := "ytbfpadeoalcjeab", sum := "e161488a2a7a4dc10a7e579a010d48259887a16bd182bf82805947a035705193", func := "loop.example/g01046/laws.FnExactSameDesk", spec := "fnExactSameDesk", unfollowed := true, recurses := true, apart := false, narrowed := true }
def FnExactSameDeskUptoSaid : Prop := fnExactSameDeskUptoRow.holds Try.pinned (OpenSpec.upto fnExactSameDeskSpec)

end Rows
end Go.Proofs.Ytbfpadeoalcjeab
