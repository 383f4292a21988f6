/-
  DERIVED. GIVEN WITH THE SEED: THE CARDS: each row of YtjmlcobbjpmjpaaDoorRows.lean that lists a variable, with what it lists TIED to the program's text (the seventh form; the later family's looks); each row that meets fmt, with fmt's text TOLD by the authors' own Lean function (tested against real Go, not proved from fmt's source: count such statements apart). THE CARD IS WHAT COUNTS. Prove the row's statement (the work); the ties are given (YtjmlcobbjpmjpaaDoorTie.lean); close each card by the builder's one call (the guide's Derived/Test/ToyasCard.lean, 'card_holds'). Laid BY PROGRAM, IN A SANDBOX (cutbox-door.mjs). By AI agents, Wed Nov 11 2026. No macro, syntax, notation, axiom, sorry.
-/
import Derived.Test.YtjmlcobbjpmjpaaDoorRows
import GoSem.ClaimSeven
namespace Go.Proofs.YtjmlcobbjpmjpaaDoor
namespace Rows

/-- THE TIED CARD OF 'laws.FnExactNamesIn'. -/
def fnExactNamesInCard : Claim7 := { stood := { row := fnExactNamesInRow, standIns := [], harness := (true, "5374b5c64c5acc9171ad19816604babcea78274bafeff4893b9b5b143121701c"), looks := true }, kinds := [], alts := [], laidByText := true, laidKinds := [.data, .data, .data, .data, .sentinel, .sentinel, .pinned], laidTests := true, laidLooks := .later }
def FnExactNamesInCardSaid : Prop := Claim7.holds Tryd.pinned (.plain (OpenSpec.ofChange fnExactNamesInSpec)) fnExactNamesInCard

/-- THE TIED CARD OF 'laws.FnLogSums'. -/
def fnLogSumsCard : Claim7 := { stood := { row := fnLogSumsRow, standIns := [], harness := (true, "5374b5c64c5acc9171ad19816604babcea78274bafeff4893b9b5b143121701c"), looks := true }, kinds := [], alts := [], laidByText := true, laidKinds := [.data, .data, .data, .data, .sentinel, .sentinel, .pinned], laidTests := true, laidLooks := .later }
def FnLogSumsCardSaid : Prop := Claim7.holds Tryd.pinned (.plain (OpenSpec.ofChange fnLogSumsSpec)) fnLogSumsCard

/-- THE TIED CARD OF 'laws.FnLogs'. -/
def fnLogsCard : Claim7 := { stood := { row := fnLogsRow, standIns := [], harness := (true, "5374b5c64c5acc9171ad19816604babcea78274bafeff4893b9b5b143121701c"), looks := true }, kinds := [], alts := [], laidByText := true, laidKinds := [.data, .data, .data, .data, .sentinel, .sentinel, .pinned], laidTests := true, laidLooks := .later }
def FnLogsCardSaid : Prop := Claim7.holds Tryd.pinned (.plain (OpenSpec.ofChange fnLogsSpec)) fnLogsCard

/-- THE TIED CARD OF 'laws.FnCounts'. -/
def fnCountsCard : Claim7 := { stood := { row := fnCountsRow, standIns := [], harness := (true, "5374b5c64c5acc9171ad19816604babcea78274bafeff4893b9b5b143121701c"), looks := true }, kinds := [], alts := [], laidByText := true, laidKinds := [.data, .data, .data], laidTests := true, laidLooks := .later }
def FnCountsCardSaid : Prop := Claim7.holds Tryd.pinned (.plain (OpenSpec.ofChange fnCountsSpec)) fnCountsCard

/-- THE TIED CARD OF 'laws.FnExactNewDesk'. -/
def fnExactNewDeskCard : Claim7 := { stood := { row := fnExactNewDeskRow, standIns := [], harness := (true, "5374b5c64c5acc9171ad19816604babcea78274bafeff4893b9b5b143121701c"), looks := true }, kinds := [], alts := [], laidByText := true, laidKinds := [.data, .data, .data, .data, .sentinel, .sentinel, .pinned], laidTests := true, laidLooks := .later }
def FnExactNewDeskCardSaid : Prop := Claim7.holds Tryd.pinned (.plain (OpenSpec.ofChange fnExactNewDeskSpec)) fnExactNewDeskCard

/-- THE SECOND FORM's CARD OF 'laws.FnExactNamesIn'. -/
def fnExactNamesInUptoCard : Claim7 := { stood := { row := fnExactNamesInUptoRow, standIns := [], harness := (true, "5374b5c64c5acc9171ad19816604babcea78274bafeff4893b9b5b143121701c"), looks := true }, kinds := [], alts := [], laidByText := true, laidKinds := [.data, .data, .data, .data, .sentinel, .sentinel, .pinned], laidTests := true, laidLooks := .later }
def FnExactNamesInUptoCardSaid : Prop := Claim7.holds Tryd.pinned (.plain (OpenSpec.upto fnExactNamesInSpec)) fnExactNamesInUptoCard

/-- THE SECOND FORM's CARD OF 'laws.FnLogSums'. -/
def fnLogSumsUptoCard : Claim7 := { stood := { row := fnLogSumsUptoRow, standIns := [], harness := (true, "5374b5c64c5acc9171ad19816604babcea78274bafeff4893b9b5b143121701c"), looks := true }, kinds := [], alts := [], laidByText := true, laidKinds := [.data, .data, .data, .data, .sentinel, .sentinel, .pinned], laidTests := true, laidLooks := .later }
def FnLogSumsUptoCardSaid : Prop := Claim7.holds Tryd.pinned (.plain (OpenSpec.upto fnLogSumsSpec)) fnLogSumsUptoCard

/-- THE SECOND FORM's CARD OF 'laws.FnLogs'. -/
def fnLogsUptoCard : Claim7 := { stood := { row := fnLogsUptoRow, standIns := [], harness := (true, "5374b5c64c5acc9171ad19816604babcea78274bafeff4893b9b5b143121701c"), looks := true }, kinds := [], alts := [], laidByText := true, laidKinds := [.data, .data, .data, .data, .sentinel, .sentinel, .pinned], laidTests := true, laidLooks := .later }
def FnLogsUptoCardSaid : Prop := Claim7.holds Tryd.pinned (.plain (OpenSpec.upto fnLogsSpec)) fnLogsUptoCard

/-- THE SECOND FORM's CARD OF 'laws.FnCounts'. -/
def fnCountsUptoCard : Claim7 := { stood := { row := fnCountsUptoRow, standIns := [], harness := (true, "5374b5c64c5acc9171ad19816604babcea78274bafeff4893b9b5b143121701c"), looks := true }, kinds := [], alts := [], laidByText := true, laidKinds := [.data, .data, .data], laidTests := true, laidLooks := .later }
def FnCountsUptoCardSaid : Prop := Claim7.holds Tryd.pinned (.plain (OpenSpec.upto fnCountsSpec)) fnCountsUptoCard

/-- THE SECOND FORM's CARD OF 'laws.FnExactNewDesk'. -/
def fnExactNewDeskUptoCard : Claim7 := { stood := { row := fnExactNewDeskUptoRow, standIns := [], harness := (true, "5374b5c64c5acc9171ad19816604babcea78274bafeff4893b9b5b143121701c"), looks := true }, kinds := [], alts := [], laidByText := true, laidKinds := [.data, .data, .data, .data, .sentinel, .sentinel, .pinned], laidTests := true, laidLooks := .later }
def FnExactNewDeskUptoCardSaid : Prop := Claim7.holds Tryd.pinned (.plain (OpenSpec.upto fnExactNewDeskSpec)) fnExactNewDeskUptoCard
end Rows
end Go.Proofs.YtjmlcobbjpmjpaaDoor
