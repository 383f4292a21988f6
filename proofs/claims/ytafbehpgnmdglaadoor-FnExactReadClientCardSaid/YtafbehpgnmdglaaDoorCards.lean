/-
  DERIVED. GIVEN WITH THE SEED: THE CARDS: each row of YtafbehpgnmdglaaDoorRows.lean that lists a variable, with what it lists TIED to the program's text (the seventh form; the later family's looks); each row that meets fmt, with fmt's text TOLD by the authors' own Lean function (tested against real Go, not proved from fmt's source: count such statements apart). THE CARD IS WHAT COUNTS. Prove the row's statement (the work); the ties are given (YtafbehpgnmdglaaDoorTie.lean); close each card by the builder's one call (the guide's Derived/Test/ToyasCard.lean, 'card_holds'). Laid BY PROGRAM, IN A SANDBOX (cutbox-door.mjs). By AI agents, Wed Nov 11 2026. No macro, syntax, notation, axiom, sorry.
-/
import Derived.Test.YtafbehpgnmdglaaDoorRows
import GoSem.ClaimSeven
namespace Go.Proofs.YtafbehpgnmdglaaDoor
namespace Rows

/-- THE TIED CARD OF 'laws.FnExactClientText'. -/
def fnExactClientTextCard : Claim7 := { stood := { row := fnExactClientTextRow, standIns := [], harness := (true, "f1f3fa73bfd2c5b8cfeccc261e560f5213adf26ef839213ad7c15829275f0411"), looks := true }, kinds := [], alts := [], laidByText := true, laidKinds := [.data, .data, .data], laidTests := true, laidLooks := .later }
def FnExactClientTextCardSaid : Prop := Claim7.holds Tryd.pinned (.plain (OpenSpec.ofChange fnExactClientTextSpec)) fnExactClientTextCard

/-- THE TIED CARD OF 'laws.FnExactBookingText'. -/
def fnExactBookingTextCard : Claim7 := { stood := { row := fnExactBookingTextRow, standIns := [], harness := (true, "f1f3fa73bfd2c5b8cfeccc261e560f5213adf26ef839213ad7c15829275f0411"), looks := true }, kinds := [], alts := [], laidByText := true, laidKinds := [.data, .data, .data], laidTests := true, laidLooks := .later }
def FnExactBookingTextCardSaid : Prop := Claim7.holds Tryd.pinned (.plain (OpenSpec.ofChange fnExactBookingTextSpec)) fnExactBookingTextCard

/-- THE TIED CARD OF 'laws.FnExactStampOf'. -/
def fnExactStampOfCard : Claim7 := { stood := { row := fnExactStampOfRow, standIns := [], harness := (true, "f1f3fa73bfd2c5b8cfeccc261e560f5213adf26ef839213ad7c15829275f0411"), looks := true }, kinds := [], alts := [], laidByText := true, laidKinds := [.data, .data, .data], laidTests := true, laidLooks := .later }
def FnExactStampOfCardSaid : Prop := Claim7.holds Tryd.pinned (.plain (OpenSpec.ofChange fnExactStampOfSpec)) fnExactStampOfCard

/-- THE TIED CARD OF 'laws.FnExactCountsText'. -/
def fnExactCountsTextCard : Claim7 := { stood := { row := fnExactCountsTextRow, standIns := [], harness := (true, "f1f3fa73bfd2c5b8cfeccc261e560f5213adf26ef839213ad7c15829275f0411"), looks := true }, kinds := [], alts := [], laidByText := true, laidKinds := [.data, .data, .data], laidTests := true, laidLooks := .later }
def FnExactCountsTextCardSaid : Prop := Claim7.holds Tryd.pinned (.plain (OpenSpec.ofChange fnExactCountsTextSpec)) fnExactCountsTextCard

/-- THE TIED CARD OF 'laws.FnExactLogOf'. -/
def fnExactLogOfCard : Claim7 := { stood := { row := fnExactLogOfRow, standIns := [], harness := (true, "f1f3fa73bfd2c5b8cfeccc261e560f5213adf26ef839213ad7c15829275f0411"), looks := true }, kinds := [], alts := [], laidByText := true, laidKinds := [.data, .data, .data], laidTests := true, laidLooks := .later }
def FnExactLogOfCardSaid : Prop := Claim7.holds Tryd.pinned (.plain (OpenSpec.ofChange fnExactLogOfSpec)) fnExactLogOfCard

/-- THE TIED CARD OF 'laws.FnExactReadClient'. -/
def fnExactReadClientCard : Claim7 := { stood := { row := fnExactReadClientRow, standIns := [], harness := (true, "f1f3fa73bfd2c5b8cfeccc261e560f5213adf26ef839213ad7c15829275f0411"), looks := true }, kinds := [], alts := [], laidByText := true, laidKinds := [.data, .data, .data, .data, .sentinel, .sentinel, .pinned], laidTests := true, laidLooks := .later }
def FnExactReadClientCardSaid : Prop := Claim7.holds Tryd.pinned (.plain (OpenSpec.ofChange fnExactReadClientSpec)) fnExactReadClientCard

/-- THE TIED CARD OF 'laws.FnExactCheckLog'. -/
def fnExactCheckLogCard : Claim7 := { stood := { row := fnExactCheckLogRow, standIns := [], harness := (true, "f1f3fa73bfd2c5b8cfeccc261e560f5213adf26ef839213ad7c15829275f0411"), looks := true }, kinds := [], alts := [], laidByText := true, laidKinds := [.data, .data, .data, .data, .sentinel, .sentinel, .pinned], laidTests := true, laidLooks := .later }
def FnExactCheckLogCardSaid : Prop := Claim7.holds Tryd.pinned (.plain (OpenSpec.ofChange fnExactCheckLogSpec)) fnExactCheckLogCard

/-- THE TIED CARD OF 'laws.FnExactRecoverLog'. -/
def fnExactRecoverLogCard : Claim7 := { stood := { row := fnExactRecoverLogRow, standIns := [], harness := (true, "f1f3fa73bfd2c5b8cfeccc261e560f5213adf26ef839213ad7c15829275f0411"), looks := true }, kinds := [], alts := [], laidByText := true, laidKinds := [.data, .data, .data, .data, .sentinel, .sentinel, .pinned], laidTests := true, laidLooks := .later }
def FnExactRecoverLogCardSaid : Prop := Claim7.holds Tryd.pinned (.plain (OpenSpec.ofChange fnExactRecoverLogSpec)) fnExactRecoverLogCard

/-- THE TIED CARD OF 'laws.FnExactSumOfWhat'. -/
def fnExactSumOfWhatCard : Claim7 := { stood := { row := fnExactSumOfWhatRow, standIns := [], harness := (true, "f1f3fa73bfd2c5b8cfeccc261e560f5213adf26ef839213ad7c15829275f0411"), looks := true }, kinds := [], alts := [], laidByText := true, laidKinds := [.data, .data, .data, .data, .sentinel, .sentinel, .pinned], laidTests := true, laidLooks := .later }
def FnExactSumOfWhatCardSaid : Prop := Claim7.holds Tryd.pinned (.plain (OpenSpec.ofChange fnExactSumOfWhatSpec)) fnExactSumOfWhatCard

/-- THE TIED CARD OF 'laws.FnExactAddEntry'. -/
def fnExactAddEntryCard : Claim7 := { stood := { row := fnExactAddEntryRow, standIns := [], harness := (true, "f1f3fa73bfd2c5b8cfeccc261e560f5213adf26ef839213ad7c15829275f0411"), looks := true }, kinds := [], alts := [], laidByText := true, laidKinds := [.data, .data, .data, .data, .sentinel, .sentinel, .pinned], laidTests := true, laidLooks := .later }
def FnExactAddEntryCardSaid : Prop := Claim7.holds Tryd.pinned (.plain (OpenSpec.ofChange fnExactAddEntrySpec)) fnExactAddEntryCard

/-- THE TIED CARD OF 'laws.FnExactValuesOf'. -/
def fnExactValuesOfCard : Claim7 := { stood := { row := fnExactValuesOfRow, standIns := [], harness := (true, "f1f3fa73bfd2c5b8cfeccc261e560f5213adf26ef839213ad7c15829275f0411"), looks := true }, kinds := [], alts := [], laidByText := true, laidKinds := [.data, .data, .data, .data, .sentinel, .sentinel, .pinned], laidTests := true, laidLooks := .later }
def FnExactValuesOfCardSaid : Prop := Claim7.holds Tryd.pinned (.plain (OpenSpec.ofChange fnExactValuesOfSpec)) fnExactValuesOfCard

/-- THE TIED CARD OF 'laws.FnExactEntriesOf'. -/
def fnExactEntriesOfCard : Claim7 := { stood := { row := fnExactEntriesOfRow, standIns := [], harness := (true, "f1f3fa73bfd2c5b8cfeccc261e560f5213adf26ef839213ad7c15829275f0411"), looks := true }, kinds := [], alts := [], laidByText := true, laidKinds := [.data, .data, .data, .data, .sentinel, .sentinel, .pinned], laidTests := true, laidLooks := .later }
def FnExactEntriesOfCardSaid : Prop := Claim7.holds Tryd.pinned (.plain (OpenSpec.ofChange fnExactEntriesOfSpec)) fnExactEntriesOfCard

/-- THE SECOND FORM's CARD OF 'laws.FnExactClientText'. -/
def fnExactClientTextUptoCard : Claim7 := { stood := { row := fnExactClientTextUptoRow, standIns := [], harness := (true, "f1f3fa73bfd2c5b8cfeccc261e560f5213adf26ef839213ad7c15829275f0411"), looks := true }, kinds := [], alts := [], laidByText := true, laidKinds := [.data, .data, .data], laidTests := true, laidLooks := .later }
def FnExactClientTextUptoCardSaid : Prop := Claim7.holds Tryd.pinned (.plain (OpenSpec.upto fnExactClientTextSpec)) fnExactClientTextUptoCard

/-- THE SECOND FORM's CARD OF 'laws.FnExactBookingText'. -/
def fnExactBookingTextUptoCard : Claim7 := { stood := { row := fnExactBookingTextUptoRow, standIns := [], harness := (true, "f1f3fa73bfd2c5b8cfeccc261e560f5213adf26ef839213ad7c15829275f0411"), looks := true }, kinds := [], alts := [], laidByText := true, laidKinds := [.data, .data, .data], laidTests := true, laidLooks := .later }
def FnExactBookingTextUptoCardSaid : Prop := Claim7.holds Tryd.pinned (.plain (OpenSpec.upto fnExactBookingTextSpec)) fnExactBookingTextUptoCard

/-- THE SECOND FORM's CARD OF 'laws.FnExactStampOf'. -/
def fnExactStampOfUptoCard : Claim7 := { stood := { row := fnExactStampOfUptoRow, standIns := [], harness := (true, "f1f3fa73bfd2c5b8cfeccc261e560f5213adf26ef839213ad7c15829275f0411"), looks := true }, kinds := [], alts := [], laidByText := true, laidKinds := [.data, .data, .data], laidTests := true, laidLooks := .later }
def FnExactStampOfUptoCardSaid : Prop := Claim7.holds Tryd.pinned (.plain (OpenSpec.upto fnExactStampOfSpec)) fnExactStampOfUptoCard

/-- THE SECOND FORM's CARD OF 'laws.FnExactCountsText'. -/
def fnExactCountsTextUptoCard : Claim7 := { stood := { row := fnExactCountsTextUptoRow, standIns := [], harness := (true, "f1f3fa73bfd2c5b8cfeccc261e560f5213adf26ef839213ad7c15829275f0411"), looks := true }, kinds := [], alts := [], laidByText := true, laidKinds := [.data, .data, .data], laidTests := true, laidLooks := .later }
def FnExactCountsTextUptoCardSaid : Prop := Claim7.holds Tryd.pinned (.plain (OpenSpec.upto fnExactCountsTextSpec)) fnExactCountsTextUptoCard

/-- THE SECOND FORM's CARD OF 'laws.FnExactLogOf'. -/
def fnExactLogOfUptoCard : Claim7 := { stood := { row := fnExactLogOfUptoRow, standIns := [], harness := (true, "f1f3fa73bfd2c5b8cfeccc261e560f5213adf26ef839213ad7c15829275f0411"), looks := true }, kinds := [], alts := [], laidByText := true, laidKinds := [.data, .data, .data], laidTests := true, laidLooks := .later }
def FnExactLogOfUptoCardSaid : Prop := Claim7.holds Tryd.pinned (.plain (OpenSpec.upto fnExactLogOfSpec)) fnExactLogOfUptoCard

/-- THE SECOND FORM's CARD OF 'laws.FnExactReadClient'. -/
def fnExactReadClientUptoCard : Claim7 := { stood := { row := fnExactReadClientUptoRow, standIns := [], harness := (true, "f1f3fa73bfd2c5b8cfeccc261e560f5213adf26ef839213ad7c15829275f0411"), looks := true }, kinds := [], alts := [], laidByText := true, laidKinds := [.data, .data, .data, .data, .sentinel, .sentinel, .pinned], laidTests := true, laidLooks := .later }
def FnExactReadClientUptoCardSaid : Prop := Claim7.holds Tryd.pinned (.plain (OpenSpec.upto fnExactReadClientSpec)) fnExactReadClientUptoCard

/-- THE SECOND FORM's CARD OF 'laws.FnExactCheckLog'. -/
def fnExactCheckLogUptoCard : Claim7 := { stood := { row := fnExactCheckLogUptoRow, standIns := [], harness := (true, "f1f3fa73bfd2c5b8cfeccc261e560f5213adf26ef839213ad7c15829275f0411"), looks := true }, kinds := [], alts := [], laidByText := true, laidKinds := [.data, .data, .data, .data, .sentinel, .sentinel, .pinned], laidTests := true, laidLooks := .later }
def FnExactCheckLogUptoCardSaid : Prop := Claim7.holds Tryd.pinned (.plain (OpenSpec.upto fnExactCheckLogSpec)) fnExactCheckLogUptoCard

/-- THE SECOND FORM's CARD OF 'laws.FnExactRecoverLog'. -/
def fnExactRecoverLogUptoCard : Claim7 := { stood := { row := fnExactRecoverLogUptoRow, standIns := [], harness := (true, "f1f3fa73bfd2c5b8cfeccc261e560f5213adf26ef839213ad7c15829275f0411"), looks := true }, kinds := [], alts := [], laidByText := true, laidKinds := [.data, .data, .data, .data, .sentinel, .sentinel, .pinned], laidTests := true, laidLooks := .later }
def FnExactRecoverLogUptoCardSaid : Prop := Claim7.holds Tryd.pinned (.plain (OpenSpec.upto fnExactRecoverLogSpec)) fnExactRecoverLogUptoCard

/-- THE SECOND FORM's CARD OF 'laws.FnExactSumOfWhat'. -/
def fnExactSumOfWhatUptoCard : Claim7 := { stood := { row := fnExactSumOfWhatUptoRow, standIns := [], harness := (true, "f1f3fa73bfd2c5b8cfeccc261e560f5213adf26ef839213ad7c15829275f0411"), looks := true }, kinds := [], alts := [], laidByText := true, laidKinds := [.data, .data, .data, .data, .sentinel, .sentinel, .pinned], laidTests := true, laidLooks := .later }
def FnExactSumOfWhatUptoCardSaid : Prop := Claim7.holds Tryd.pinned (.plain (OpenSpec.upto fnExactSumOfWhatSpec)) fnExactSumOfWhatUptoCard

/-- THE SECOND FORM's CARD OF 'laws.FnExactAddEntry'. -/
def fnExactAddEntryUptoCard : Claim7 := { stood := { row := fnExactAddEntryUptoRow, standIns := [], harness := (true, "f1f3fa73bfd2c5b8cfeccc261e560f5213adf26ef839213ad7c15829275f0411"), looks := true }, kinds := [], alts := [], laidByText := true, laidKinds := [.data, .data, .data, .data, .sentinel, .sentinel, .pinned], laidTests := true, laidLooks := .later }
def FnExactAddEntryUptoCardSaid : Prop := Claim7.holds Tryd.pinned (.plain (OpenSpec.upto fnExactAddEntrySpec)) fnExactAddEntryUptoCard

/-- THE SECOND FORM's CARD OF 'laws.FnExactValuesOf'. -/
def fnExactValuesOfUptoCard : Claim7 := { stood := { row := fnExactValuesOfUptoRow, standIns := [], harness := (true, "f1f3fa73bfd2c5b8cfeccc261e560f5213adf26ef839213ad7c15829275f0411"), looks := true }, kinds := [], alts := [], laidByText := true, laidKinds := [.data, .data, .data, .data, .sentinel, .sentinel, .pinned], laidTests := true, laidLooks := .later }
def FnExactValuesOfUptoCardSaid : Prop := Claim7.holds Tryd.pinned (.plain (OpenSpec.upto fnExactValuesOfSpec)) fnExactValuesOfUptoCard

/-- THE SECOND FORM's CARD OF 'laws.FnExactEntriesOf'. -/
def fnExactEntriesOfUptoCard : Claim7 := { stood := { row := fnExactEntriesOfUptoRow, standIns := [], harness := (true, "f1f3fa73bfd2c5b8cfeccc261e560f5213adf26ef839213ad7c15829275f0411"), looks := true }, kinds := [], alts := [], laidByText := true, laidKinds := [.data, .data, .data, .data, .sentinel, .sentinel, .pinned], laidTests := true, laidLooks := .later }
def FnExactEntriesOfUptoCardSaid : Prop := Claim7.holds Tryd.pinned (.plain (OpenSpec.upto fnExactEntriesOfSpec)) fnExactEntriesOfUptoCard
end Rows
end Go.Proofs.YtafbehpgnmdglaaDoor
