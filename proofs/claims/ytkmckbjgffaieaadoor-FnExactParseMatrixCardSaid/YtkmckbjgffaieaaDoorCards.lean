/-
  DERIVED. GIVEN WITH THE SEED: THE CARDS: each row of YtkmckbjgffaieaaDoorRows.lean that lists a variable, with what it lists TIED to the program's text (the seventh form; the later family's looks); each row that meets fmt, with fmt's text TOLD by the authors' own Lean function (tested against real Go, not proved from fmt's source: count such statements apart). THE CARD IS WHAT COUNTS. Prove the row's statement (the work); the ties are given (YtkmckbjgffaieaaDoorTie.lean); close each card by the builder's one call (the guide's Derived/Test/ToyasCard.lean, 'card_holds'). Laid BY PROGRAM, IN A SANDBOX (cutbox-door.mjs). By AI agents, Wed Nov 11 2026. No macro, syntax, notation, axiom, sorry.
-/
import Derived.Test.YtkmckbjgffaieaaDoorRows
import GoSem.ClaimSeven
namespace Go.Proofs.YtkmckbjgffaieaaDoor
namespace Rows

/-- THE TIED CARD OF 'laws.FnExactFormatPartition'. -/
def fnExactFormatPartitionCard : Claim7 := { stood := { row := fnExactFormatPartitionRow, standIns := [], harness := (true, "9e656b27f017c261217eeabfa664f464c32f194d1b25d9d9499287d44cb8574c"), looks := true }, kinds := [], alts := [], laidByText := true, laidKinds := [.data, .data, .data], laidTests := true, laidLooks := .later }
def FnExactFormatPartitionCardSaid : Prop := Claim7.holds Tryd.pinned (.plain (OpenSpec.ofChange fnExactFormatPartitionSpec)) fnExactFormatPartitionCard

/-- THE TIED CARD OF 'laws.FnExactFormatScoring'. -/
def fnExactFormatScoringCard : Claim7 := { stood := { row := fnExactFormatScoringRow, standIns := [], harness := (true, "9e656b27f017c261217eeabfa664f464c32f194d1b25d9d9499287d44cb8574c"), looks := true }, kinds := [], alts := [], laidByText := true, laidKinds := [.data, .data, .data], laidTests := true, laidLooks := .later }
def FnExactFormatScoringCardSaid : Prop := Claim7.holds Tryd.pinned (.plain (OpenSpec.ofChange fnExactFormatScoringSpec)) fnExactFormatScoringCard

/-- THE TIED CARD OF 'laws.FnExactFormatMatrix'. -/
def fnExactFormatMatrixCard : Claim7 := { stood := { row := fnExactFormatMatrixRow, standIns := [], harness := (true, "9e656b27f017c261217eeabfa664f464c32f194d1b25d9d9499287d44cb8574c"), looks := true }, kinds := [], alts := [], laidByText := true, laidKinds := [.data, .data, .data], laidTests := true, laidLooks := .later }
def FnExactFormatMatrixCardSaid : Prop := Claim7.holds Tryd.pinned (.plain (OpenSpec.ofChange fnExactFormatMatrixSpec)) fnExactFormatMatrixCard

/-- THE TIED CARD OF 'laws.FnExactParsePartition'. -/
def fnExactParsePartitionCard : Claim7 := { stood := { row := fnExactParsePartitionRow, standIns := [], harness := (true, "9e656b27f017c261217eeabfa664f464c32f194d1b25d9d9499287d44cb8574c"), looks := true }, kinds := [], alts := [], laidByText := true, laidKinds := [.data, .data, .data, .data, .pinned], laidTests := true, laidLooks := .later }
def FnExactParsePartitionCardSaid : Prop := Claim7.holds Tryd.pinned (.plain (OpenSpec.ofChange fnExactParsePartitionSpec)) fnExactParsePartitionCard

/-- THE TIED CARD OF 'laws.FnExactParseScoring'. -/
def fnExactParseScoringCard : Claim7 := { stood := { row := fnExactParseScoringRow, standIns := [], harness := (true, "9e656b27f017c261217eeabfa664f464c32f194d1b25d9d9499287d44cb8574c"), looks := true }, kinds := [], alts := [], laidByText := true, laidKinds := [.data, .data, .data, .sentinel, .sentinel], laidTests := true, laidLooks := .later }
def FnExactParseScoringCardSaid : Prop := Claim7.holds Tryd.pinned (.plain (OpenSpec.ofChange fnExactParseScoringSpec)) fnExactParseScoringCard

/-- THE TIED CARD OF 'laws.FnPartitions'. -/
def fnPartitionsCard : Claim7 := { stood := { row := fnPartitionsRow, standIns := [], harness := (true, "9e656b27f017c261217eeabfa664f464c32f194d1b25d9d9499287d44cb8574c"), looks := true }, kinds := [], alts := [], laidByText := true, laidKinds := [.data, .data, .data, .data, .pinned], laidTests := true, laidLooks := .later }
def FnPartitionsCardSaid : Prop := Claim7.holds Tryd.pinned (.plain (OpenSpec.ofChange fnPartitionsSpec)) fnPartitionsCard

/-- THE TIED CARD OF 'laws.FnExactParseMatrix'. -/
def fnExactParseMatrixCard : Claim7 := { stood := { row := fnExactParseMatrixRow, standIns := [], harness := (true, "9e656b27f017c261217eeabfa664f464c32f194d1b25d9d9499287d44cb8574c"), looks := true }, kinds := [], alts := [], laidByText := true, laidKinds := [.data, .data, .data, .data, .sentinel, .sentinel, .pinned], laidTests := true, laidLooks := .later }
def FnExactParseMatrixCardSaid : Prop := Claim7.holds Tryd.pinned (.plain (OpenSpec.ofChange fnExactParseMatrixSpec)) fnExactParseMatrixCard

/-- THE SECOND FORM's CARD OF 'laws.FnExactFormatPartition'. -/
def fnExactFormatPartitionUptoCard : Claim7 := { stood := { row := fnExactFormatPartitionUptoRow, standIns := [], harness := (true, "9e656b27f017c261217eeabfa664f464c32f194d1b25d9d9499287d44cb8574c"), looks := true }, kinds := [], alts := [], laidByText := true, laidKinds := [.data, .data, .data], laidTests := true, laidLooks := .later }
def FnExactFormatPartitionUptoCardSaid : Prop := Claim7.holds Tryd.pinned (.plain (OpenSpec.upto fnExactFormatPartitionSpec)) fnExactFormatPartitionUptoCard

/-- THE SECOND FORM's CARD OF 'laws.FnExactFormatScoring'. -/
def fnExactFormatScoringUptoCard : Claim7 := { stood := { row := fnExactFormatScoringUptoRow, standIns := [], harness := (true, "9e656b27f017c261217eeabfa664f464c32f194d1b25d9d9499287d44cb8574c"), looks := true }, kinds := [], alts := [], laidByText := true, laidKinds := [.data, .data, .data], laidTests := true, laidLooks := .later }
def FnExactFormatScoringUptoCardSaid : Prop := Claim7.holds Tryd.pinned (.plain (OpenSpec.upto fnExactFormatScoringSpec)) fnExactFormatScoringUptoCard

/-- THE SECOND FORM's CARD OF 'laws.FnExactFormatMatrix'. -/
def fnExactFormatMatrixUptoCard : Claim7 := { stood := { row := fnExactFormatMatrixUptoRow, standIns := [], harness := (true, "9e656b27f017c261217eeabfa664f464c32f194d1b25d9d9499287d44cb8574c"), looks := true }, kinds := [], alts := [], laidByText := true, laidKinds := [.data, .data, .data], laidTests := true, laidLooks := .later }
def FnExactFormatMatrixUptoCardSaid : Prop := Claim7.holds Tryd.pinned (.plain (OpenSpec.upto fnExactFormatMatrixSpec)) fnExactFormatMatrixUptoCard

/-- THE SECOND FORM's CARD OF 'laws.FnExactParsePartition'. -/
def fnExactParsePartitionUptoCard : Claim7 := { stood := { row := fnExactParsePartitionUptoRow, standIns := [], harness := (true, "9e656b27f017c261217eeabfa664f464c32f194d1b25d9d9499287d44cb8574c"), looks := true }, kinds := [], alts := [], laidByText := true, laidKinds := [.data, .data, .data, .data, .pinned], laidTests := true, laidLooks := .later }
def FnExactParsePartitionUptoCardSaid : Prop := Claim7.holds Tryd.pinned (.plain (OpenSpec.upto fnExactParsePartitionSpec)) fnExactParsePartitionUptoCard

/-- THE SECOND FORM's CARD OF 'laws.FnExactParseScoring'. -/
def fnExactParseScoringUptoCard : Claim7 := { stood := { row := fnExactParseScoringUptoRow, standIns := [], harness := (true, "9e656b27f017c261217eeabfa664f464c32f194d1b25d9d9499287d44cb8574c"), looks := true }, kinds := [], alts := [], laidByText := true, laidKinds := [.data, .data, .data, .sentinel, .sentinel], laidTests := true, laidLooks := .later }
def FnExactParseScoringUptoCardSaid : Prop := Claim7.holds Tryd.pinned (.plain (OpenSpec.upto fnExactParseScoringSpec)) fnExactParseScoringUptoCard

/-- THE SECOND FORM's CARD OF 'laws.FnPartitions'. -/
def fnPartitionsUptoCard : Claim7 := { stood := { row := fnPartitionsUptoRow, standIns := [], harness := (true, "9e656b27f017c261217eeabfa664f464c32f194d1b25d9d9499287d44cb8574c"), looks := true }, kinds := [], alts := [], laidByText := true, laidKinds := [.data, .data, .data, .data, .pinned], laidTests := true, laidLooks := .later }
def FnPartitionsUptoCardSaid : Prop := Claim7.holds Tryd.pinned (.plain (OpenSpec.upto fnPartitionsSpec)) fnPartitionsUptoCard

/-- THE SECOND FORM's CARD OF 'laws.FnExactParseMatrix'. -/
def fnExactParseMatrixUptoCard : Claim7 := { stood := { row := fnExactParseMatrixUptoRow, standIns := [], harness := (true, "9e656b27f017c261217eeabfa664f464c32f194d1b25d9d9499287d44cb8574c"), looks := true }, kinds := [], alts := [], laidByText := true, laidKinds := [.data, .data, .data, .data, .sentinel, .sentinel, .pinned], laidTests := true, laidLooks := .later }
def FnExactParseMatrixUptoCardSaid : Prop := Claim7.holds Tryd.pinned (.plain (OpenSpec.upto fnExactParseMatrixSpec)) fnExactParseMatrixUptoCard
end Rows
end Go.Proofs.YtkmckbjgffaieaaDoor
