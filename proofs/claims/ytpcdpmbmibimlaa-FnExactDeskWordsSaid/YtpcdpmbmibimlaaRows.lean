/-
  No cell of these rows narrows 'for every input' (looked for: loops, veiled, ifaces, maps, wideKeys, modest, calm, conditions, laid).
  DERIVED. THE GIVEN ROWS OF THIS SEAT. 12 by the template 'for every input the law returns true; each argument reads behind the call as it read before'; 0 by the template 'total and deterministic' (their statements: YtpcdpmbmibimlaaTotals.lean).
  GIVEN WITH THE SEED: the statements are not yours to turn. If you find one false, say at which input.
  Laid BY PROGRAM, IN A SANDBOX (cutbox-rows.mjs): the forced cells as the released guide's own fill.sh prints them over the translation 6d14329f21ae5fe3… (all of the seat's roots in one cut). By AI agents, Wed Nov 11 2026. No macro, syntax, notation, axiom, sorry.
-/
import Derived.Test.YtpcdpmbmibimlaaChecked
import GoSem.Claim
import GoSem.ClaimJoined
import GoSem.ClaimMapViews
import Derived.JoinedTies
import Derived.KernelRfl
namespace Go.Proofs.Ytpcdpmbmibimlaa
/- THE CELL 'sum', in the pinned program and in every row, IS THE sha256 OF THE DUMP (.gsa) THAT YtpcdpmbmibimlaaProg.lean LOADS. Nothing in Lean hashes anything: it is a label: what it is worth is what the hold of that sum in a sandbox is worth. -/
noncomputable def Try.pinned : Pinned := { name := "ytpcdpmbmibimlaa", sum := "6d14329f21ae5fe32916e1dc2aee3dc8920f991013350fbf6f8bdb2b4fde09c8", checked := Try.checked }
namespace Rows
def none {H : Type} : Left H := { results := [], args := [] }

/-- 'laws.FnExactDeskWords': WHATEVER THE INPUT: true; the input reads as it did. -/
def fnExactDeskWordsSpec : ChangeSpec := { name := "fnExactDeskWords", fn := fun _ => fun
  | [] => { results := [.lit (.bool true)], args := [] }
  | _ => none }
def fnExactDeskWordsRow : OpenClaim := { program := "ytpcdpmbmibimlaa", sum := "6d14329f21ae5fe32916e1dc2aee3dc8920f991013350fbf6f8bdb2b4fde09c8", func := "loop.example/g01046/laws.FnExactDeskWords", spec := "fnExactDeskWords", apart := false }
def FnExactDeskWordsSaid : Prop := fnExactDeskWordsRow.holds Try.pinned (OpenSpec.ofChange fnExactDeskWordsSpec)

/-- ITS FALSE NEIGHBOUR: 'it returns false'. Refute it at one input. -/
def fnExactDeskWordsWrong : ChangeSpec := { name := "fnExactDeskWords", fn := fun _ => fun
  | [] => { results := [.lit (.bool false)], args := [] }
  | _ => none }
def FnExactDeskWordsWrongFalsely : Prop := fnExactDeskWordsRow.holds Try.pinned (OpenSpec.ofChange fnExactDeskWordsWrong)

/-- 'laws.FnExactValidEntry': WHATEVER THE INPUT: true; the input reads as it did. -/
def fnExactValidEntrySpec : ChangeSpec := { name := "fnExactValidEntry", fn := fun _ => fun
  | [d] => { results := [.lit (.bool true)], args := [d] }
  | _ => none }
def fnExactValidEntryRow : OpenClaim := { program := "ytpcdpmbmibimlaa", sum := "6d14329f21ae5fe32916e1dc2aee3dc8920f991013350fbf6f8bdb2b4fde09c8", func := "loop.example/g01046/laws.FnExactValidEntry", spec := "fnExactValidEntry", apart := false }
def FnExactValidEntrySaid : Prop := fnExactValidEntryRow.holds Try.pinned (OpenSpec.ofChange fnExactValidEntrySpec)

/-- ITS FALSE NEIGHBOUR: 'it returns false'. Refute it at one input. -/
def fnExactValidEntryWrong : ChangeSpec := { name := "fnExactValidEntry", fn := fun _ => fun
  | [d] => { results := [.lit (.bool false)], args := [d] }
  | _ => none }
def FnExactValidEntryWrongFalsely : Prop := fnExactValidEntryRow.holds Try.pinned (OpenSpec.ofChange fnExactValidEntryWrong)

/-- 'laws.FnExactValidEvents': WHATEVER THE INPUT: true; the input reads as it did. -/
def fnExactValidEventsSpec : ChangeSpec := { name := "fnExactValidEvents", fn := fun _ => fun
  | [d] => { results := [.lit (.bool true)], args := [d] }
  | _ => none }
def fnExactValidEventsRow : OpenClaim := { program := "ytpcdpmbmibimlaa", sum := "6d14329f21ae5fe32916e1dc2aee3dc8920f991013350fbf6f8bdb2b4fde09c8", func := "loop.example/g01046/laws.FnExactValidEvents", spec := "fnExactValidEvents", unfollowed := true, recurses := true, apart := false }
def FnExactValidEventsSaid : Prop := fnExactValidEventsRow.holds Try.pinned (OpenSpec.ofChange fnExactValidEventsSpec)

/-- ITS FALSE NEIGHBOUR: 'it returns false'. Refute it at one input. -/
def fnExactValidEventsWrong : ChangeSpec := { name := "fnExactValidEvents", fn := fun _ => fun
  | [d] => { results := [.lit (.bool false)], args := [d] }
  | _ => none }
def FnExactValidEventsWrongFalsely : Prop := fnExactValidEventsRow.holds Try.pinned (OpenSpec.ofChange fnExactValidEventsWrong)

/-- 'laws.FnExactSameBookings': WHATEVER THE INPUT: true; the input reads as it did. -/
def fnExactSameBookingsSpec : ChangeSpec := { name := "fnExactSameBookings", fn := fun _ => fun
  | [d1, d2] => { results := [.lit (.bool true)], args := [d1, d2] }
  | _ => none }
def fnExactSameBookingsRow : OpenClaim := { program := "ytpcdpmbmibimlaa", sum := "6d14329f21ae5fe32916e1dc2aee3dc8920f991013350fbf6f8bdb2b4fde09c8", func := "loop.example/g01046/laws.FnExactSameBookings", spec := "fnExactSameBookings", apart := false }
def FnExactSameBookingsSaid : Prop := fnExactSameBookingsRow.holds Try.pinned (OpenSpec.ofChange fnExactSameBookingsSpec)

/-- ITS FALSE NEIGHBOUR: 'it returns false'. Refute it at one input. -/
def fnExactSameBookingsWrong : ChangeSpec := { name := "fnExactSameBookings", fn := fun _ => fun
  | [d1, d2] => { results := [.lit (.bool false)], args := [d1, d2] }
  | _ => none }
def FnExactSameBookingsWrongFalsely : Prop := fnExactSameBookingsRow.holds Try.pinned (OpenSpec.ofChange fnExactSameBookingsWrong)

/-- 'laws.FnExactCompareDays': WHATEVER THE INPUT: true; the input reads as it did. -/
def fnExactCompareDaysSpec : ChangeSpec := { name := "fnExactCompareDays", fn := fun _ => fun
  | [d1, d2] => { results := [.lit (.bool true)], args := [d1, d2] }
  | _ => none }
def fnExactCompareDaysRow : OpenClaim := { program := "ytpcdpmbmibimlaa", sum := "6d14329f21ae5fe32916e1dc2aee3dc8920f991013350fbf6f8bdb2b4fde09c8", func := "loop.example/g01046/laws.FnExactCompareDays", spec := "fnExactCompareDays", unfollowed := true, recurses := true, apart := false }
def FnExactCompareDaysSaid : Prop := fnExactCompareDaysRow.holds Try.pinned (OpenSpec.ofChange fnExactCompareDaysSpec)

/-- ITS FALSE NEIGHBOUR: 'it returns false'. Refute it at one input. -/
def fnExactCompareDaysWrong : ChangeSpec := { name := "fnExactCompareDays", fn := fun _ => fun
  | [d1, d2] => { results := [.lit (.bool false)], args := [d1, d2] }
  | _ => none }
def FnExactCompareDaysWrongFalsely : Prop := fnExactCompareDaysRow.holds Try.pinned (OpenSpec.ofChange fnExactCompareDaysWrong)

/-- 'laws.FnExactValidBookings': WHATEVER THE INPUT: true; the input reads as it did. -/
def fnExactValidBookingsSpec : ChangeSpec := { name := "fnExactValidBookings", fn := fun _ => fun
  | [d] => { results := [.lit (.bool true)], args := [d] }
  | _ => none }
def fnExactValidBookingsRow : OpenClaim := { program := "ytpcdpmbmibimlaa", sum := "6d14329f21ae5fe32916e1dc2aee3dc8920f991013350fbf6f8bdb2b4fde09c8", func := "loop.example/g01046/laws.FnExactValidBookings", spec := "fnExactValidBookings", apart := false }
def FnExactValidBookingsSaid : Prop := fnExactValidBookingsRow.holds Try.pinned (OpenSpec.ofChange fnExactValidBookingsSpec)

/-- ITS FALSE NEIGHBOUR: 'it returns false'. Refute it at one input. -/
def fnExactValidBookingsWrong : ChangeSpec := { name := "fnExactValidBookings", fn := fun _ => fun
  | [d] => { results := [.lit (.bool false)], args := [d] }
  | _ => none }
def FnExactValidBookingsWrongFalsely : Prop := fnExactValidBookingsRow.holds Try.pinned (OpenSpec.ofChange fnExactValidBookingsWrong)

/-- 'laws.FnExactCountsByHour': WHATEVER THE INPUT: true; the input reads as it did. -/
def fnExactCountsByHourSpec : ChangeSpec := { name := "fnExactCountsByHour", fn := fun _ => fun
  | [d] => { results := [.lit (.bool true)], args := [d] }
  | _ => none }
def fnExactCountsByHourRow : OpenClaim := { program := "ytpcdpmbmibimlaa", sum := "6d14329f21ae5fe32916e1dc2aee3dc8920f991013350fbf6f8bdb2b4fde09c8", func := "loop.example/g01046/laws.FnExactCountsByHour", spec := "fnExactCountsByHour", unfollowed := true, recurses := true, apart := false }
def FnExactCountsByHourSaid : Prop := fnExactCountsByHourRow.holds Try.pinned (OpenSpec.ofChange fnExactCountsByHourSpec)

/-- ITS FALSE NEIGHBOUR: 'it returns false'. Refute it at one input. -/
def fnExactCountsByHourWrong : ChangeSpec := { name := "fnExactCountsByHour", fn := fun _ => fun
  | [d] => { results := [.lit (.bool false)], args := [d] }
  | _ => none }
def FnExactCountsByHourWrongFalsely : Prop := fnExactCountsByHourRow.holds Try.pinned (OpenSpec.ofChange fnExactCountsByHourWrong)

/-- 'laws.FnExactCountsByStation': WHATEVER THE INPUT: true; the input reads as it did. -/
def fnExactCountsByStationSpec : ChangeSpec := { name := "fnExactCountsByStation", fn := fun _ => fun
  | [d] => { results := [.lit (.bool true)], args := [d] }
  | _ => none }
def fnExactCountsByStationRow : OpenClaim := { program := "ytpcdpmbmibimlaa", sum := "6d14329f21ae5fe32916e1dc2aee3dc8920f991013350fbf6f8bdb2b4fde09c8", func := "loop.example/g01046/laws.FnExactCountsByStation", spec := "fnExactCountsByStation", unfollowed := true, recurses := true, apart := false }
def FnExactCountsByStationSaid : Prop := fnExactCountsByStationRow.holds Try.pinned (OpenSpec.ofChange fnExactCountsByStationSpec)

/-- ITS FALSE NEIGHBOUR: 'it returns false'. Refute it at one input. -/
def fnExactCountsByStationWrong : ChangeSpec := { name := "fnExactCountsByStation", fn := fun _ => fun
  | [d] => { results := [.lit (.bool false)], args := [d] }
  | _ => none }
def FnExactCountsByStationWrongFalsely : Prop := fnExactCountsByStationRow.holds Try.pinned (OpenSpec.ofChange fnExactCountsByStationWrong)

/-- 'laws.FnExactPeakHour': WHATEVER THE INPUT: true; the input reads as it did. -/
def fnExactPeakHourSpec : ChangeSpec := { name := "fnExactPeakHour", fn := fun _ => fun
  | [d] => { results := [.lit (.bool true)], args := [d] }
  | _ => none }
def fnExactPeakHourRow : OpenClaim := { program := "ytpcdpmbmibimlaa", sum := "6d14329f21ae5fe32916e1dc2aee3dc8920f991013350fbf6f8bdb2b4fde09c8", func := "loop.example/g01046/laws.FnExactPeakHour", spec := "fnExactPeakHour", unfollowed := true, recurses := true, apart := false }
def FnExactPeakHourSaid : Prop := fnExactPeakHourRow.holds Try.pinned (OpenSpec.ofChange fnExactPeakHourSpec)

/-- ITS FALSE NEIGHBOUR: 'it returns false'. Refute it at one input. -/
def fnExactPeakHourWrong : ChangeSpec := { name := "fnExactPeakHour", fn := fun _ => fun
  | [d] => { results := [.lit (.bool false)], args := [d] }
  | _ => none }
def FnExactPeakHourWrongFalsely : Prop := fnExactPeakHourRow.holds Try.pinned (OpenSpec.ofChange fnExactPeakHourWrong)

/-- 'laws.FnExactShareOfStation': WHATEVER THE INPUT: true; the input reads as it did. -/
def fnExactShareOfStationSpec : ChangeSpec := { name := "fnExactShareOfStation", fn := fun _ => fun
  | [d1, d2] => { results := [.lit (.bool true)], args := [d1, d2] }
  | _ => none }
def fnExactShareOfStationRow : OpenClaim := { program := "ytpcdpmbmibimlaa", sum := "6d14329f21ae5fe32916e1dc2aee3dc8920f991013350fbf6f8bdb2b4fde09c8", func := "loop.example/g01046/laws.FnExactShareOfStation", spec := "fnExactShareOfStation", unfollowed := true, recurses := true, apart := false }
def FnExactShareOfStationSaid : Prop := fnExactShareOfStationRow.holds Try.pinned (OpenSpec.ofChange fnExactShareOfStationSpec)

/-- ITS FALSE NEIGHBOUR: 'it returns false'. Refute it at one input. -/
def fnExactShareOfStationWrong : ChangeSpec := { name := "fnExactShareOfStation", fn := fun _ => fun
  | [d1, d2] => { results := [.lit (.bool false)], args := [d1, d2] }
  | _ => none }
def FnExactShareOfStationWrongFalsely : Prop := fnExactShareOfStationRow.holds Try.pinned (OpenSpec.ofChange fnExactShareOfStationWrong)

/-- 'laws.FnExactQuietHours': WHATEVER THE INPUT: true; the input reads as it did. -/
def fnExactQuietHoursSpec : ChangeSpec := { name := "fnExactQuietHours", fn := fun _ => fun
  | [d1, d2] => { results := [.lit (.bool true)], args := [d1, d2] }
  | _ => none }
def fnExactQuietHoursRow : OpenClaim := { program := "ytpcdpmbmibimlaa", sum := "6d14329f21ae5fe32916e1dc2aee3dc8920f991013350fbf6f8bdb2b4fde09c8", func := "loop.example/g01046/laws.FnExactQuietHours", spec := "fnExactQuietHours", unfollowed := true, recurses := true, apart := false }
def FnExactQuietHoursSaid : Prop := fnExactQuietHoursRow.holds Try.pinned (OpenSpec.ofChange fnExactQuietHoursSpec)

/-- ITS FALSE NEIGHBOUR: 'it returns false'. Refute it at one input. -/
def fnExactQuietHoursWrong : ChangeSpec := { name := "fnExactQuietHours", fn := fun _ => fun
  | [d1, d2] => { results := [.lit (.bool false)], args := [d1, d2] }
  | _ => none }
def FnExactQuietHoursWrongFalsely : Prop := fnExactQuietHoursRow.holds Try.pinned (OpenSpec.ofChange fnExactQuietHoursWrong)

/-- 'laws.FnExactCrossCounts': WHATEVER THE INPUT: true; the input reads as it did. -/
def fnExactCrossCountsSpec : ChangeSpec := { name := "fnExactCrossCounts", fn := fun _ => fun
  | [d] => { results := [.lit (.bool true)], args := [d] }
  | _ => none }
def fnExactCrossCountsRow : OpenClaim := { program := "ytpcdpmbmibimlaa", sum := "6d14329f21ae5fe32916e1dc2aee3dc8920f991013350fbf6f8bdb2b4fde09c8", func := "loop.example/g01046/laws.FnExactCrossCounts", spec := "fnExactCrossCounts", unfollowed := true, recurses := true, apart := false }
def FnExactCrossCountsSaid : Prop := fnExactCrossCountsRow.holds Try.pinned (OpenSpec.ofChange fnExactCrossCountsSpec)

/-- ITS FALSE NEIGHBOUR: 'it returns false'. Refute it at one input. -/
def fnExactCrossCountsWrong : ChangeSpec := { name := "fnExactCrossCounts", fn := fun _ => fun
  | [d] => { results := [.lit (.bool false)], args := [d] }
  | _ => none }
def FnExactCrossCountsWrongFalsely : Prop := fnExactCrossCountsRow.holds Try.pinned (OpenSpec.ofChange fnExactCrossCountsWrong)

/- THE SECOND FORM. 'bulk': how many values and letters a reading holds, each counted each time it is reached (what is shared counts as often as it is met; a slice's spare places count too). A statement '..UptoSaid' is the law's where the arguments, and the package variables that the reading takes, are together of bulk at most 1048576: NARROWER than '..Said'. Prove '..Said' where nothing that the law and all that it calls make is longer than what came in: it says more and counts as full. Else prove '..UptoSaid'. A law counts once. -/
mutual
def uptoBulk {H : Type} : DataW H → Nat
  | .lit (.string bytes) => bytes.length + 1
  | .lit _ => 1
  | .nil => 1
  | .ptr d => uptoBulk d + 1
  | .slice elems spare => uptoBulkAll elems + uptoBulkAll spare + 1
  | .agg parts => uptoBulkAll parts + 1
  | .iface _ d => uptoBulk d + 1
  | .map entries => uptoBulkEntries entries + 1
  | .held _ => 1
def uptoBulkAll {H : Type} : List (DataW H) → Nat
  | [] => 0
  | d :: r => uptoBulk d + uptoBulkAll r
def uptoBulkEntries {H : Type} : List (Lit × DataW H) → Nat
  | [] => 0
  | x :: r => uptoBulkEntry x + uptoBulkEntries r
def uptoBulkEntry {H : Type} : Lit × DataW H → Nat
  | (.string bytes, d) => bytes.length + uptoBulk d + 1
  | (_, d) => uptoBulk d + 1
 end
def uptoSmall : (H : Type) → List (DataW H) → Bool := fun _ ds => decide (uptoBulkAll ds ≤ 1048576)
def OpenSpec.upto (s : _root_.Go.ChangeSpec) : _root_.Go.OpenSpec := { _root_.Go.OpenSpec.ofChange s with cond := some uptoSmall }

/-- 'laws.FnExactDeskWords', WHERE WHAT IT READS IS OF BULK AT MOST 1048576: true; the input reads as it did. -/
def fnExactDeskWordsUptoRow : OpenClaim := { program := "ytpcdpmbmibimlaa", sum := "6d14329f21ae5fe32916e1dc2aee3dc8920f991013350fbf6f8bdb2b4fde09c8", func := "loop.example/g01046/laws.FnExactDeskWords", spec := "fnExactDeskWords", apart := false, narrowed := true }
def FnExactDeskWordsUptoSaid : Prop := fnExactDeskWordsUptoRow.holds Try.pinned (OpenSpec.upto fnExactDeskWordsSpec)

/-- 'laws.FnExactValidEntry', WHERE WHAT IT READS IS OF BULK AT MOST 1048576: true; the input reads as it did. -/
def fnExactValidEntryUptoRow : OpenClaim := { program := "ytpcdpmbmibimlaa", sum := "6d14329f21ae5fe32916e1dc2aee3dc8920f991013350fbf6f8bdb2b4fde09c8", func := "loop.example/g01046/laws.FnExactValidEntry", spec := "fnExactValidEntry", apart := false, narrowed := true }
def FnExactValidEntryUptoSaid : Prop := fnExactValidEntryUptoRow.holds Try.pinned (OpenSpec.upto fnExactValidEntrySpec)

/-- 'laws.FnExactValidEvents', WHERE WHAT IT READS IS OF BULK AT MOST 1048576: true; the input reads as it did. -/
def fnExactValidEventsUptoRow : OpenClaim := { program := "ytpcdpmbmibimlaa", sum := "6d14329f21ae5fe32916e1dc2aee3dc8920f991013350fbf6f8bdb2b4fde09c8", func := "loop.example/g01046/laws.FnExactValidEvents", spec := "fnExactValidEvents", unfollowed := true, recurses := true, apart := false, narrowed := true }
def FnExactValidEventsUptoSaid : Prop := fnExactValidEventsUptoRow.holds Try.pinned (OpenSpec.upto fnExactValidEventsSpec)

/-- 'laws.FnExactSameBookings', WHERE WHAT IT READS IS OF BULK AT MOST 1048576: true; the input reads as it did. -/
def fnExactSameBookingsUptoRow : OpenClaim := { program := "ytpcdpmbmibimlaa", sum := "6d14329f21ae5fe32916e1dc2aee3dc8920f991013350fbf6f8bdb2b4fde09c8", func := "loop.example/g01046/laws.FnExactSameBookings", spec := "fnExactSameBookings", apart := false, narrowed := true }
def FnExactSameBookingsUptoSaid : Prop := fnExactSameBookingsUptoRow.holds Try.pinned (OpenSpec.upto fnExactSameBookingsSpec)

/-- 'laws.FnExactCompareDays', WHERE WHAT IT READS IS OF BULK AT MOST 1048576: true; the input reads as it did. -/
def fnExactCompareDaysUptoRow : OpenClaim := { program := "ytpcdpmbmibimlaa", sum := "6d14329f21ae5fe32916e1dc2aee3dc8920f991013350fbf6f8bdb2b4fde09c8", func := "loop.example/g01046/laws.FnExactCompareDays", spec := "fnExactCompareDays", unfollowed := true, recurses := true, apart := false, narrowed := true }
def FnExactCompareDaysUptoSaid : Prop := fnExactCompareDaysUptoRow.holds Try.pinned (OpenSpec.upto fnExactCompareDaysSpec)

/-- 'laws.FnExactValidBookings', WHERE WHAT IT READS IS OF BULK AT MOST 1048576: true; the input reads as it did. -/
def fnExactValidBookingsUptoRow : OpenClaim := { program := "ytpcdpmbmibimlaa", sum := "6d14329f21ae5fe32916e1dc2aee3dc8920f991013350fbf6f8bdb2b4fde09c8", func := "loop.example/g01046/laws.FnExactValidBookings", spec := "fnExactValidBookings", apart := false, narrowed := true }
def FnExactValidBookingsUptoSaid : Prop := fnExactValidBookingsUptoRow.holds Try.pinned (OpenSpec.upto fnExactValidBookingsSpec)

/-- 'laws.FnExactCountsByHour', WHERE WHAT IT READS IS OF BULK AT MOST 1048576: true; the input reads as it did. -/
def fnExactCountsByHourUptoRow : OpenClaim := { program := "ytpcdpmbmibimlaa", sum := "6d14329f21ae5fe32916e1dc2aee3dc8920f991013350fbf6f8bdb2b4fde09c8", func := "loop.example/g01046/laws.FnExactCountsByHour", spec := "fnExactCountsByHour", unfollowed := true, recurses := true, apart := false, narrowed := true }
def FnExactCountsByHourUptoSaid : Prop := fnExactCountsByHourUptoRow.holds Try.pinned (OpenSpec.upto fnExactCountsByHourSpec)

/-- 'laws.FnExactCountsByStation', WHERE WHAT IT READS IS OF BULK AT MOST 1048576: true; the input reads as it did. -/
def fnExactCountsByStationUptoRow : OpenClaim := { program := "ytpcdpmbmibimlaa", sum := "6d14329f21ae5fe32916e1dc2aee3dc8920f991013350fbf6f8bdb2b4fde09c8", func := "loop.example/g01046/laws.FnExactCountsByStation", spec := "fnExactCountsByStation", unfollowed := true, recurses := true, apart := false, narrowed := true }
def FnExactCountsByStationUptoSaid : Prop := fnExactCountsByStationUptoRow.holds Try.pinned (OpenSpec.upto fnExactCountsByStationSpec)

/-- 'laws.FnExactPeakHour', WHERE WHAT IT READS IS OF BULK AT MOST 1048576: true; the input reads as it did. -/
def fnExactPeakHourUptoRow : OpenClaim := { program := "ytpcdpmbmibimlaa", sum := "6d14329f21ae5fe32916e1dc2aee3dc8920f991013350fbf6f8bdb2b4fde09c8", func := "loop.example/g01046/laws.FnExactPeakHour", spec := "fnExactPeakHour", unfollowed := true, recurses := true, apart := false, narrowed := true }
def FnExactPeakHourUptoSaid : Prop := fnExactPeakHourUptoRow.holds Try.pinned (OpenSpec.upto fnExactPeakHourSpec)

/-- 'laws.FnExactShareOfStation', WHERE WHAT IT READS IS OF BULK AT MOST 1048576: true; the input reads as it did. -/
def fnExactShareOfStationUptoRow : OpenClaim := { program := "ytpcdpmbmibimlaa", sum := "6d14329f21ae5fe32916e1dc2aee3dc8920f991013350fbf6f8bdb2b4fde09c8", func := "loop.example/g01046/laws.FnExactShareOfStation", spec := "fnExactShareOfStation", unfollowed := true, recurses := true, apart := false, narrowed := true }
def FnExactShareOfStationUptoSaid : Prop := fnExactShareOfStationUptoRow.holds Try.pinned (OpenSpec.upto fnExactShareOfStationSpec)

/-- 'laws.FnExactQuietHours', WHERE WHAT IT READS IS OF BULK AT MOST 1048576: true; the input reads as it did. -/
def fnExactQuietHoursUptoRow : OpenClaim := { program := "ytpcdpmbmibimlaa", sum := "6d14329f21ae5fe32916e1dc2aee3dc8920f991013350fbf6f8bdb2b4fde09c8", func := "loop.example/g01046/laws.FnExactQuietHours", spec := "fnExactQuietHours", unfollowed := true, recurses := true, apart := false, narrowed := true }
def FnExactQuietHoursUptoSaid : Prop := fnExactQuietHoursUptoRow.holds Try.pinned (OpenSpec.upto fnExactQuietHoursSpec)

/-- 'laws.FnExactCrossCounts', WHERE WHAT IT READS IS OF BULK AT MOST 1048576: true; the input reads as it did. -/
def fnExactCrossCountsUptoRow : OpenClaim := { program := "ytpcdpmbmibimlaa", sum := "6d14329f21ae5fe32916e1dc2aee3dc8920f991013350fbf6f8bdb2b4fde09c8", func := "loop.example/g01046/laws.FnExactCrossCounts", spec := "fnExactCrossCounts", unfollowed := true, recurses := true, apart := false, narrowed := true }
def FnExactCrossCountsUptoSaid : Prop := fnExactCrossCountsUptoRow.holds Try.pinned (OpenSpec.upto fnExactCrossCountsSpec)

end Rows
end Go.Proofs.Ytpcdpmbmibimlaa
