/-
  No cell of these rows narrows 'for every input' (looked for: loops, veiled, ifaces, maps, wideKeys, modest, calm, conditions, laid).
  DERIVED. THE GIVEN ROWS OF THIS SEAT. 9 by the template 'for every input the law returns true; each argument reads behind the call as it read before'; 0 by the template 'total and deterministic' (their statements: YtnlghcpidlpfkaaTotals.lean).
  GIVEN WITH THE SEED: the statements are not yours to turn. If you find one false, say at which input.
  Laid BY PROGRAM, IN A SANDBOX (cutbox-rows.mjs): the forced cells as the released guide's own fill.sh prints them over the translation 1f359eac0400b4a6… (all of the seat's roots in one cut). By AI agents, Wed Nov 11 2026. No macro, syntax, notation, axiom, sorry.
-/
import Derived.Test.YtnlghcpidlpfkaaChecked
import GoSem.Claim
import GoSem.ClaimJoined
import GoSem.ClaimMapViews
import Derived.JoinedTies
import Derived.KernelRfl
namespace Go.Proofs.Ytnlghcpidlpfkaa
/- THE CELL 'sum', in the pinned program and in every row, IS THE sha256 OF THE DUMP (.gsa) THAT YtnlghcpidlpfkaaProg.lean LOADS. Nothing in Lean hashes anything: it is a label: what it is worth is what the hold of that sum in a sandbox is worth. -/
noncomputable def Try.pinned : Pinned := { name := "ytnlghcpidlpfkaa", sum := "1f359eac0400b4a68f4bc74f4011dd5749387cd7bd091c7414d01033840f7a03", checked := Try.checked }
namespace Rows
def none {H : Type} : Left H := { results := [], args := [] }

/-- 'laws.FnExactAddClient': WHATEVER THE INPUT: true; the input reads as it did. -/
def fnExactAddClientSpec : ChangeSpec := { name := "fnExactAddClient", fn := fun _ => fun
  | [d1, d2] => { results := [.lit (.bool true)], args := [d1, d2] }
  | _ => none }
def fnExactAddClientRow : OpenClaim := { program := "ytnlghcpidlpfkaa", sum := "1f359eac0400b4a68f4bc74f4011dd5749387cd7bd091c7414d01033840f7a03", func := "loop.example/g01046/laws.FnExactAddClient", spec := "fnExactAddClient", inPlace := ["slices.overlaps[loop.example/g01046/impl.Client]"], unfollowed := true, recurses := true, apart := false }
def FnExactAddClientSaid : Prop := fnExactAddClientRow.holds Try.pinned (OpenSpec.ofChange fnExactAddClientSpec)

/-- ITS FALSE NEIGHBOUR: 'it returns false'. Refute it at one input. -/
def fnExactAddClientWrong : ChangeSpec := { name := "fnExactAddClient", fn := fun _ => fun
  | [d1, d2] => { results := [.lit (.bool false)], args := [d1, d2] }
  | _ => none }
def FnExactAddClientWrongFalsely : Prop := fnExactAddClientRow.holds Try.pinned (OpenSpec.ofChange fnExactAddClientWrong)

/-- 'laws.FnExactBookClient': WHATEVER THE INPUT: true; the input reads as it did. -/
def fnExactBookClientSpec : ChangeSpec := { name := "fnExactBookClient", fn := fun _ => fun
  | [d1, d2] => { results := [.lit (.bool true)], args := [d1, d2] }
  | _ => none }
def fnExactBookClientRow : OpenClaim := { program := "ytnlghcpidlpfkaa", sum := "1f359eac0400b4a68f4bc74f4011dd5749387cd7bd091c7414d01033840f7a03", func := "loop.example/g01046/laws.FnExactBookClient", spec := "fnExactBookClient", inPlace := ["slices.overlaps[loop.example/g01046/impl.Booking]"], unfollowed := true, recurses := true, apart := false }
def FnExactBookClientSaid : Prop := fnExactBookClientRow.holds Try.pinned (OpenSpec.ofChange fnExactBookClientSpec)

/-- ITS FALSE NEIGHBOUR: 'it returns false'. Refute it at one input. -/
def fnExactBookClientWrong : ChangeSpec := { name := "fnExactBookClient", fn := fun _ => fun
  | [d1, d2] => { results := [.lit (.bool false)], args := [d1, d2] }
  | _ => none }
def FnExactBookClientWrongFalsely : Prop := fnExactBookClientRow.holds Try.pinned (OpenSpec.ofChange fnExactBookClientWrong)

/-- 'laws.FnExactSameDesk': WHATEVER THE INPUT: true; the input reads as it did. -/
def fnExactSameDeskSpec : ChangeSpec := { name := "fnExactSameDesk", fn := fun _ => fun
  | [d1, d2] => { results := [.lit (.bool true)], args := [d1, d2] }
  | _ => none }
def fnExactSameDeskRow : OpenClaim := { program := "ytnlghcpidlpfkaa", sum := "1f359eac0400b4a68f4bc74f4011dd5749387cd7bd091c7414d01033840f7a03", func := "loop.example/g01046/laws.FnExactSameDesk", spec := "fnExactSameDesk", unfollowed := true, recurses := true, apart := false }
def FnExactSameDeskSaid : Prop := fnExactSameDeskRow.holds Try.pinned (OpenSpec.ofChange fnExactSameDeskSpec)

/-- ITS FALSE NEIGHBOUR: 'it returns false'. Refute it at one input. -/
def fnExactSameDeskWrong : ChangeSpec := { name := "fnExactSameDesk", fn := fun _ => fun
  | [d1, d2] => { results := [.lit (.bool false)], args := [d1, d2] }
  | _ => none }
def FnExactSameDeskWrongFalsely : Prop := fnExactSameDeskRow.holds Try.pinned (OpenSpec.ofChange fnExactSameDeskWrong)

/-- 'laws.FnExactCrossCounts': WHATEVER THE INPUT: true; the input reads as it did. -/
def fnExactCrossCountsSpec : ChangeSpec := { name := "fnExactCrossCounts", fn := fun _ => fun
  | [d] => { results := [.lit (.bool true)], args := [d] }
  | _ => none }
def fnExactCrossCountsRow : OpenClaim := { program := "ytnlghcpidlpfkaa", sum := "1f359eac0400b4a68f4bc74f4011dd5749387cd7bd091c7414d01033840f7a03", func := "loop.example/g01046/laws.FnExactCrossCounts", spec := "fnExactCrossCounts", unfollowed := true, recurses := true, apart := false }
def FnExactCrossCountsSaid : Prop := fnExactCrossCountsRow.holds Try.pinned (OpenSpec.ofChange fnExactCrossCountsSpec)

/-- ITS FALSE NEIGHBOUR: 'it returns false'. Refute it at one input. -/
def fnExactCrossCountsWrong : ChangeSpec := { name := "fnExactCrossCounts", fn := fun _ => fun
  | [d] => { results := [.lit (.bool false)], args := [d] }
  | _ => none }
def FnExactCrossCountsWrongFalsely : Prop := fnExactCrossCountsRow.holds Try.pinned (OpenSpec.ofChange fnExactCrossCountsWrong)

/-- 'laws.FnExactClientsBooked': WHATEVER THE INPUT: true; the input reads as it did. -/
def fnExactClientsBookedSpec : ChangeSpec := { name := "fnExactClientsBooked", fn := fun _ => fun
  | [d] => { results := [.lit (.bool true)], args := [d] }
  | _ => none }
def fnExactClientsBookedRow : OpenClaim := { program := "ytnlghcpidlpfkaa", sum := "1f359eac0400b4a68f4bc74f4011dd5749387cd7bd091c7414d01033840f7a03", func := "loop.example/g01046/laws.FnExactClientsBooked", spec := "fnExactClientsBooked", recurses := true, apart := false }
def FnExactClientsBookedSaid : Prop := fnExactClientsBookedRow.holds Try.pinned (OpenSpec.ofChange fnExactClientsBookedSpec)

/-- ITS FALSE NEIGHBOUR: 'it returns false'. Refute it at one input. -/
def fnExactClientsBookedWrong : ChangeSpec := { name := "fnExactClientsBooked", fn := fun _ => fun
  | [d] => { results := [.lit (.bool false)], args := [d] }
  | _ => none }
def FnExactClientsBookedWrongFalsely : Prop := fnExactClientsBookedRow.holds Try.pinned (OpenSpec.ofChange fnExactClientsBookedWrong)

/-- 'laws.FnExactDebtorsOn': WHATEVER THE INPUT: true; the input reads as it did. -/
def fnExactDebtorsOnSpec : ChangeSpec := { name := "fnExactDebtorsOn", fn := fun _ => fun
  | [d1, d2] => { results := [.lit (.bool true)], args := [d1, d2] }
  | _ => none }
def fnExactDebtorsOnRow : OpenClaim := { program := "ytnlghcpidlpfkaa", sum := "1f359eac0400b4a68f4bc74f4011dd5749387cd7bd091c7414d01033840f7a03", func := "loop.example/g01046/laws.FnExactDebtorsOn", spec := "fnExactDebtorsOn", unfollowed := true, recurses := true, apart := false }
def FnExactDebtorsOnSaid : Prop := fnExactDebtorsOnRow.holds Try.pinned (OpenSpec.ofChange fnExactDebtorsOnSpec)

/-- ITS FALSE NEIGHBOUR: 'it returns false'. Refute it at one input. -/
def fnExactDebtorsOnWrong : ChangeSpec := { name := "fnExactDebtorsOn", fn := fun _ => fun
  | [d1, d2] => { results := [.lit (.bool false)], args := [d1, d2] }
  | _ => none }
def FnExactDebtorsOnWrongFalsely : Prop := fnExactDebtorsOnRow.holds Try.pinned (OpenSpec.ofChange fnExactDebtorsOnWrong)

/-- 'laws.FnPeaks': WHATEVER THE INPUT: true; the input reads as it did. -/
def fnPeaksSpec : ChangeSpec := { name := "fnPeaks", fn := fun _ => fun
  | [d] => { results := [.lit (.bool true)], args := [d] }
  | _ => none }
def fnPeaksRow : OpenClaim := { program := "ytnlghcpidlpfkaa", sum := "1f359eac0400b4a68f4bc74f4011dd5749387cd7bd091c7414d01033840f7a03", func := "loop.example/g01046/laws.FnPeaks", spec := "fnPeaks", unfollowed := true, recurses := true, apart := false }
def FnPeaksSaid : Prop := fnPeaksRow.holds Try.pinned (OpenSpec.ofChange fnPeaksSpec)

/-- ITS FALSE NEIGHBOUR: 'it returns false'. Refute it at one input. -/
def fnPeaksWrong : ChangeSpec := { name := "fnPeaks", fn := fun _ => fun
  | [d] => { results := [.lit (.bool false)], args := [d] }
  | _ => none }
def FnPeaksWrongFalsely : Prop := fnPeaksRow.holds Try.pinned (OpenSpec.ofChange fnPeaksWrong)

/-- 'laws.FnQuotas': WHATEVER THE INPUT: true; the input reads as it did. -/
def fnQuotasSpec : ChangeSpec := { name := "fnQuotas", fn := fun _ => fun
  | [d] => { results := [.lit (.bool true)], args := [d] }
  | _ => none }
def fnQuotasRow : OpenClaim := { program := "ytnlghcpidlpfkaa", sum := "1f359eac0400b4a68f4bc74f4011dd5749387cd7bd091c7414d01033840f7a03", func := "loop.example/g01046/laws.FnQuotas", spec := "fnQuotas", unfollowed := true, recurses := true, apart := false }
def FnQuotasSaid : Prop := fnQuotasRow.holds Try.pinned (OpenSpec.ofChange fnQuotasSpec)

/-- ITS FALSE NEIGHBOUR: 'it returns false'. Refute it at one input. -/
def fnQuotasWrong : ChangeSpec := { name := "fnQuotas", fn := fun _ => fun
  | [d] => { results := [.lit (.bool false)], args := [d] }
  | _ => none }
def FnQuotasWrongFalsely : Prop := fnQuotasRow.holds Try.pinned (OpenSpec.ofChange fnQuotasWrong)

/-- 'laws.FnTurnovers': WHATEVER THE INPUT: true; the input reads as it did. -/
def fnTurnoversSpec : ChangeSpec := { name := "fnTurnovers", fn := fun _ => fun
  | [d] => { results := [.lit (.bool true)], args := [d] }
  | _ => none }
def fnTurnoversRow : OpenClaim := { program := "ytnlghcpidlpfkaa", sum := "1f359eac0400b4a68f4bc74f4011dd5749387cd7bd091c7414d01033840f7a03", func := "loop.example/g01046/laws.FnTurnovers", spec := "fnTurnovers", recurses := true, apart := false }
def FnTurnoversSaid : Prop := fnTurnoversRow.holds Try.pinned (OpenSpec.ofChange fnTurnoversSpec)

/-- ITS FALSE NEIGHBOUR: 'it returns false'. Refute it at one input. -/
def fnTurnoversWrong : ChangeSpec := { name := "fnTurnovers", fn := fun _ => fun
  | [d] => { results := [.lit (.bool false)], args := [d] }
  | _ => none }
def FnTurnoversWrongFalsely : Prop := fnTurnoversRow.holds Try.pinned (OpenSpec.ofChange fnTurnoversWrong)

/- THE SECOND FORM. 'bulk': how many values and letters a reading holds, each counted each time it is reached (what is shared counts as often as it is met; a slice's spare places count too). A statement '..UptoSaid' is the law's where the arguments, and the package variables that the reading takes, are together of bulk at most 1048576: NARROWER than '..Said'. Prove '..Said' where nothing that the law and all that it calls make is longer than what came in: it says more and counts as full. Else prove '..UptoSaid'. A law counts once. -/
mutual
def uptoBulk {H : Type} : DataW H → Nat
  | .lit (.string bytes) => bytes.length + 1
  | .lit _ => 1
  | .nil => 1
  | .ptr d => uptoBulk d + 1
  | .slice elems spare => uptoBulkAll elems + uptoBulkAll spare + 1
  | .agg parts => uptoBulkAll parts + 1
  | .iface _ d => uptoBulk d + 1
  | .map entries => uptoBulkEntries entries + 1
  | .held _ => 1
def uptoBulkAll {H : Type} : List (DataW H) → Nat
  | [] => 0
  | d :: r => uptoBulk d + uptoBulkAll r
def uptoBulkEntries {H : Type} : List (Lit × DataW H) → Nat
  | [] => 0
  | x :: r => uptoBulkEntry x + uptoBulkEntries r
def uptoBulkEntry {H : Type} : Lit × DataW H → Nat
  | (.string bytes, d) => bytes.length + uptoBulk d + 1
  | (_, d) => uptoBulk d + 1
 end
def uptoSmall : (H : Type) → List (DataW H) → Bool := fun _ ds => decide (uptoBulkAll ds ≤ 1048576)
def OpenSpec.upto (s : _root_.Go.ChangeSpec) : _root_.Go.OpenSpec := { _root_.Go.OpenSpec.ofChange s with cond := some uptoSmall }

/-- 'laws.FnExactAddClient', WHERE WHAT IT READS IS OF BULK AT MOST 1048576: true; the input reads as it did. -/
def fnExactAddClientUptoRow : OpenClaim := { program := "ytnlghcpidlpfkaa", sum := "1f359eac0400b4a68f4bc74f4011dd5749387cd7bd091c7414d01033840f7a03", func := "loop.example/g01046/laws.FnExactAddClient", spec := "fnExactAddClient", inPlace := ["slices.overlaps[loop.example/g01046/impl.Client]"], unfollowed := true, recurses := true, apart := false, narrowed := true }
def FnExactAddClientUptoSaid : Prop := fnExactAddClientUptoRow.holds Try.pinned (OpenSpec.upto fnExactAddClientSpec)

/-- 'laws.FnExactBookClient', WHERE WHAT IT READS IS OF BULK AT MOST 1048576: true; the input reads as it did. -/
def fnExactBookClientUptoRow : OpenClaim := { program := "ytnlghcpidlpfkaa", sum := "1f359eac0400b4a68f4bc74f4011dd5749387cd7bd091c7414d01033840f7a03", func := "loop.example/g01046/laws.FnExactBookClient", spec := "fnExactBookClient", inPlace := ["slices.overlaps[loop.example/g01046/impl.Booking]"], unfollowed := true, recurses := true, apart := false, narrowed := true }
def FnExactBookClientUptoSaid : Prop := fnExactBookClientUptoRow.holds Try.pinned (OpenSpec.upto fnExactBookClientSpec)

/-- 'laws.FnExactSameDesk', WHERE WHAT IT READS IS OF BULK AT MOST 1048576: true; the input reads as it did. -/
def fnExactSameDeskUptoRow : OpenClaim := { program := "ytnlghcpidlpfkaa", sum := "1f359eac0400b4a68f4bc74f4011dd5749387cd7bd091c7414d01033840f7a03", func := "loop.example/g01046/laws.FnExactSameDesk", spec := "fnExactSameDesk", unfollowed := true, recurses := true, apart := false, narrowed := true }
def FnExactSameDeskUptoSaid : Prop := fnExactSameDeskUptoRow.holds Try.pinned (OpenSpec.upto fnExactSameDeskSpec)

/-- 'laws.FnExactCrossCounts', WHERE WHAT IT READS IS OF BULK AT MOST 1048576: true; the input reads as it did. -/
def fnExactCrossCountsUptoRow : OpenClaim := { program := "ytnlghcpidlpfkaa", sum := "1f359eac0400b4a68f4bc74f4011dd5749387cd7bd091c7414d01033840f7a03", func := "loop.example/g01046/laws.FnExactCrossCounts", spec := "fnExactCrossCounts", unfollowed := true, recurses := true, apart := false, narrowed := true }
def FnExactCrossCountsUptoSaid : Prop := fnExactCrossCountsUptoRow.holds Try.pinned (OpenSpec.upto fnExactCrossCountsSpec)

/-- 'laws.FnExactClientsBooked', WHERE WHAT IT READS IS OF BULK AT MOST 1048576: true; the input reads as it did. -/
def fnExactClientsBookedUptoRow : OpenClaim := { program := "ytnlghcpidlpfkaa", sum := "1f359eac0400b4a68f4bc74f4011dd5749387cd7bd091c7414d01033840f7a03", func := "loop.example/g01046/laws.FnExactClientsBooked", spec := "fnExactClientsBooked", recurses := true, apart := false, narrowed := true }
def FnExactClientsBookedUptoSaid : Prop := fnExactClientsBookedUptoRow.holds Try.pinned (OpenSpec.upto fnExactClientsBookedSpec)

/-- 'laws.FnExactDebtorsOn', WHERE WHAT IT READS IS OF BULK AT MOST 1048576: true; the input reads as it did. -/
def fnExactDebtorsOnUptoRow : OpenClaim := { program := "ytnlghcpidlpfkaa", sum := "1f359eac0400b4a68f4bc74f4011dd5749387cd7bd091c7414d01033840f7a03", func := "loop.example/g01046/laws.FnExactDebtorsOn", spec := "fnExactDebtorsOn", unfollowed := true, recurses := true, apart := false, narrowed := true }
def FnExactDebtorsOnUptoSaid : Prop := fnExactDebtorsOnUptoRow.holds Try.pinned (OpenSpec.upto fnExactDebtorsOnSpec)

/-- 'laws.FnPeaks', WHERE WHAT IT READS IS OF BULK AT MOST 1048576: true; the input reads as it did. -/
def fnPeaksUptoRow : OpenClaim := { program := "ytnlghcpidlpfkaa", sum := "1f359eac0400b4a68f4bc74f4011dd5749387cd7bd091c7414d01033840f7a03", func := "loop.example/g01046/laws.FnPeaks", spec := "fnPeaks", unfollowed := true, recurses := true, apart := false, narrowed := true }
def FnPeaksUptoSaid : Prop := fnPeaksUptoRow.holds Try.pinned (OpenSpec.upto fnPeaksSpec)

/-- 'laws.FnQuotas', WHERE WHAT IT READS IS OF BULK AT MOST 1048576: true; the input reads as it did. -/
def fnQuotasUptoRow : OpenClaim := { program := "ytnlghcpidlpfkaa", sum := "1f359eac0400b4a68f4bc74f4011dd5749387cd7bd091c7414d01033840f7a03", func := "loop.example/g01046/laws.FnQuotas", spec := "fnQuotas", unfollowed := true, recurses := true, apart := false, narrowed := true }
def FnQuotasUptoSaid : Prop := fnQuotasUptoRow.holds Try.pinned (OpenSpec.upto fnQuotasSpec)

/-- 'laws.FnTurnovers', WHERE WHAT IT READS IS OF BULK AT MOST 1048576: true; the input reads as it did. -/
def fnTurnoversUptoRow : OpenClaim := { program := "ytnlghcpidlpfkaa", sum := "1f359eac0400b4a68f4bc74f4011dd5749387cd7bd091c7414d01033840f7a03", func := "loop.example/g01046/laws.FnTurnovers", spec := "fnTurnovers", recurses := true, apart := false, narrowed := true }
def FnTurnoversUptoSaid : Prop := fnTurnoversUptoRow.holds Try.pinned (OpenSpec.upto fnTurnoversSpec)

end Rows
end Go.Proofs.Ytnlghcpidlpfkaa
