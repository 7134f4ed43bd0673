/-
  DERIVED. GIVEN WITH THE SEED: THE CARDS: each row of YtfkhhbjdlgklnaaGreatDoorRows.lean that lists a variable, with what it lists TIED to the program's text (the seventh form; the later family's looks); each row that meets fmt, with fmt's text TOLD by the authors' own Lean function (tested against real Go, not proved from fmt's source: count such statements apart). THE CARD IS WHAT COUNTS. Prove the row's statement (the work); the ties are given (YtfkhhbjdlgklnaaGreatDoorTie.lean); close each card by the builder's one call (the guide's Derived/Test/ToyasCard.lean, 'card_holds'). Laid BY PROGRAM, IN A SANDBOX (cutbox-door.mjs). By AI agents, Wed Nov 11 2026. No macro, syntax, notation, axiom, sorry.
-/
import Derived.Test.YtfkhhbjdlgklnaaGreatDoorRows
import GoSem.ClaimSeven
namespace Go.Proofs.YtfkhhbjdlgklnaaGreatDoor
namespace Rows

/-- THE TIED CARD OF 'regraterlaw16.ParseNests'. -/
def parseNestsCard : Claim7 := { stood := { row := parseNestsRow, standIns := [], harness := (true, "277dab62f12753c1c65284bfcce2feb6c4d240279731f8ee866920876853e4c7"), looks := true }, kinds := [], alts := [], laidByText := true, laidKinds := [.data, .data, .data, .data, .sentinel, .sentinel, .data, .data, .data, .mappedDeep, .mappedDeep, .mappedDeep, .mappedDeep, .pinned], laidTests := true, laidLooks := .later }
def ParseNestsCardSaid : Prop := Claim7.holds Tryz.pinned (.plain (OpenSpec.ofChange parseNestsSpec)) parseNestsCard

/-- THE TIED CARD OF 'regraterlaw16.ParseReads'. -/
def parseReadsCard : Claim7 := { stood := { row := parseReadsRow, standIns := [], harness := (true, "277dab62f12753c1c65284bfcce2feb6c4d240279731f8ee866920876853e4c7"), looks := true }, kinds := [], alts := [], laidByText := true, laidKinds := [.data, .data, .data, .data, .sentinel, .sentinel, .data, .data, .data, .mappedDeep, .mappedDeep, .mappedDeep, .mappedDeep, .pinned], laidTests := true, laidLooks := .later }
def ParseReadsCardSaid : Prop := Claim7.holds Tryz.pinned (.plain (OpenSpec.ofChange parseReadsSpec)) parseReadsCard

/-- THE TIED CARD OF 'regraterlaw18.SqlReads'. -/
def sqlReadsCard : Claim7 := { stood := { row := sqlReadsRow, standIns := [], harness := (true, "277dab62f12753c1c65284bfcce2feb6c4d240279731f8ee866920876853e4c7"), looks := true }, kinds := [], alts := [], laidByText := true, laidKinds := [.data, .data, .data, .data, .sentinel, .sentinel, .data, .data, .data, .mappedDeep, .mappedDeep, .mappedDeep, .mappedDeep, .data, .pinned], laidTests := true, laidLooks := .later }
def SqlReadsCardSaid : Prop := Claim7.holds Tryz.pinned (.plain (OpenSpec.ofChange sqlReadsSpec)) sqlReadsCard

/-- THE TIED CARD OF 'regraterlaw18.SqlShown'. -/
def sqlShownCard : Claim7 := { stood := { row := sqlShownRow, standIns := [], harness := (true, "277dab62f12753c1c65284bfcce2feb6c4d240279731f8ee866920876853e4c7"), looks := true }, kinds := [], alts := [], laidByText := true, laidKinds := [.data, .data, .data, .data, .sentinel, .sentinel, .data, .data, .data, .mappedDeep, .mappedDeep, .mappedDeep, .mappedDeep, .data, .pinned], laidTests := true, laidLooks := .later }
def SqlShownCardSaid : Prop := Claim7.holds Tryz.pinned (.plain (OpenSpec.ofChange sqlShownSpec)) sqlShownCard

/-- THE TIED CARD OF 'regraterlaw18.SqlCounts'. -/
def sqlCountsCard : Claim7 := { stood := { row := sqlCountsRow, standIns := [], harness := (true, "277dab62f12753c1c65284bfcce2feb6c4d240279731f8ee866920876853e4c7"), looks := true }, kinds := [], alts := [], laidByText := true, laidKinds := [.data, .data, .data, .data, .sentinel, .sentinel, .data, .data, .data, .mappedDeep, .mappedDeep, .mappedDeep, .mappedDeep, .data, .pinned], laidTests := true, laidLooks := .later }
def SqlCountsCardSaid : Prop := Claim7.holds Tryz.pinned (.plain (OpenSpec.ofChange sqlCountsSpec)) sqlCountsCard

/-- THE SECOND FORM's CARD OF 'regraterlaw16.ParseNests'. -/
def parseNestsUptoCard : Claim7 := { stood := { row := parseNestsUptoRow, standIns := [], harness := (true, "277dab62f12753c1c65284bfcce2feb6c4d240279731f8ee866920876853e4c7"), looks := true }, kinds := [], alts := [], laidByText := true, laidKinds := [.data, .data, .data, .data, .sentinel, .sentinel, .data, .data, .data, .mappedDeep, .mappedDeep, .mappedDeep, .mappedDeep, .pinned], laidTests := true, laidLooks := .later }
def ParseNestsUptoCardSaid : Prop := Claim7.holds Tryz.pinned (.plain (OpenSpec.upto parseNestsSpec)) parseNestsUptoCard

/-- THE SECOND FORM's CARD OF 'regraterlaw16.ParseReads'. -/
def parseReadsUptoCard : Claim7 := { stood := { row := parseReadsUptoRow, standIns := [], harness := (true, "277dab62f12753c1c65284bfcce2feb6c4d240279731f8ee866920876853e4c7"), looks := true }, kinds := [], alts := [], laidByText := true, laidKinds := [.data, .data, .data, .data, .sentinel, .sentinel, .data, .data, .data, .mappedDeep, .mappedDeep, .mappedDeep, .mappedDeep, .pinned], laidTests := true, laidLooks := .later }
def ParseReadsUptoCardSaid : Prop := Claim7.holds Tryz.pinned (.plain (OpenSpec.upto parseReadsSpec)) parseReadsUptoCard

/-- THE SECOND FORM's CARD OF 'regraterlaw18.SqlReads'. -/
def sqlReadsUptoCard : Claim7 := { stood := { row := sqlReadsUptoRow, standIns := [], harness := (true, "277dab62f12753c1c65284bfcce2feb6c4d240279731f8ee866920876853e4c7"), looks := true }, kinds := [], alts := [], laidByText := true, laidKinds := [.data, .data, .data, .data, .sentinel, .sentinel, .data, .data, .data, .mappedDeep, .mappedDeep, .mappedDeep, .mappedDeep, .data, .pinned], laidTests := true, laidLooks := .later }
def SqlReadsUptoCardSaid : Prop := Claim7.holds Tryz.pinned (.plain (OpenSpec.upto sqlReadsSpec)) sqlReadsUptoCard

/-- THE SECOND FORM's CARD OF 'regraterlaw18.SqlShown'. -/
def sqlShownUptoCard : Claim7 := { stood := { row := sqlShownUptoRow, standIns := [], harness := (true, "277dab62f12753c1c65284bfcce2feb6c4d240279731f8ee866920876853e4c7"), looks := true }, kinds := [], alts := [], laidByText := true, laidKinds := [.data, .data, .data, .data, .sentinel, .sentinel, .data, .data, .data, .mappedDeep, .mappedDeep, .mappedDeep, .mappedDeep, .data, .pinned], laidTests := true, laidLooks := .later }
def SqlShownUptoCardSaid : Prop := Claim7.holds Tryz.pinned (.plain (OpenSpec.upto sqlShownSpec)) sqlShownUptoCard

/-- THE SECOND FORM's CARD OF 'regraterlaw18.SqlCounts'. -/
def sqlCountsUptoCard : Claim7 := { stood := { row := sqlCountsUptoRow, standIns := [], harness := (true, "277dab62f12753c1c65284bfcce2feb6c4d240279731f8ee866920876853e4c7"), looks := true }, kinds := [], alts := [], laidByText := true, laidKinds := [.data, .data, .data, .data, .sentinel, .sentinel, .data, .data, .data, .mappedDeep, .mappedDeep, .mappedDeep, .mappedDeep, .data, .pinned], laidTests := true, laidLooks := .later }
def SqlCountsUptoCardSaid : Prop := Claim7.holds Tryz.pinned (.plain (OpenSpec.upto sqlCountsSpec)) sqlCountsUptoCard
end Rows
end Go.Proofs.YtfkhhbjdlgklnaaGreatDoor
