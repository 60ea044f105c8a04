/-
  DERIVED. GIVEN WITH THE SEED: THE CARDS: each row of YtihglnbaoadmcaaGreatDoorRows.lean that lists a variable, with what it lists TIED to the program's text (the seventh form; the later family's looks); each row that meets fmt, with fmt's text TOLD by the authors' own Lean function (tested against real Go, not proved from fmt's source: count such statements apart). THE CARD IS WHAT COUNTS. Prove the row's statement (the work); the ties are given (YtihglnbaoadmcaaGreatDoorTie.lean); close each card by the builder's one call (the guide's Derived/Test/ToyasCard.lean, 'card_holds'). Laid BY PROGRAM, IN A SANDBOX (cutbox-door.mjs). By AI agents, Wed Nov 11 2026. No macro, syntax, notation, axiom, sorry.
-/
import Derived.Test.YtihglnbaoadmcaaGreatDoorRows
import GoSem.ClaimSeven
namespace Go.Proofs.YtihglnbaoadmcaaGreatDoor
namespace Rows

/-- THE TIED CARD OF 'laws.FnExactBuildWeights'. -/
def fnExactBuildWeightsCard : Claim7 := { stood := { row := fnExactBuildWeightsRow, standIns := [], harness := (true, "2aa40d7222637944a0175f9af1b9353192b856fdc58c5b2d50650ca97191a910"), looks := true }, kinds := [], alts := [], laidByText := true, laidKinds := [.data, .data, .data, .data, .sentinel, .sentinel, .data, .pinned], laidTests := true, laidLooks := .later }
def FnExactBuildWeightsCardSaid : Prop := Claim7.holds Tryz.pinned (.plain (OpenSpec.ofChange fnExactBuildWeightsSpec)) fnExactBuildWeightsCard

/-- THE TIED CARD OF 'laws.FnWeights'. -/
def fnWeightsCard : Claim7 := { stood := { row := fnWeightsRow, standIns := [], harness := (true, "2aa40d7222637944a0175f9af1b9353192b856fdc58c5b2d50650ca97191a910"), looks := true }, kinds := [], alts := [], laidByText := true, laidKinds := [.data, .data, .data, .data, .sentinel, .sentinel, .data, .pinned], laidTests := true, laidLooks := .later }
def FnWeightsCardSaid : Prop := Claim7.holds Tryz.pinned (.plain (OpenSpec.ofChange fnWeightsSpec)) fnWeightsCard

/-- THE SECOND FORM's CARD OF 'laws.FnExactBuildWeights'. -/
def fnExactBuildWeightsUptoCard : Claim7 := { stood := { row := fnExactBuildWeightsUptoRow, standIns := [], harness := (true, "2aa40d7222637944a0175f9af1b9353192b856fdc58c5b2d50650ca97191a910"), looks := true }, kinds := [], alts := [], laidByText := true, laidKinds := [.data, .data, .data, .data, .sentinel, .sentinel, .data, .pinned], laidTests := true, laidLooks := .later }
def FnExactBuildWeightsUptoCardSaid : Prop := Claim7.holds Tryz.pinned (.plain (OpenSpec.upto fnExactBuildWeightsSpec)) fnExactBuildWeightsUptoCard

/-- THE SECOND FORM's CARD OF 'laws.FnWeights'. -/
def fnWeightsUptoCard : Claim7 := { stood := { row := fnWeightsUptoRow, standIns := [], harness := (true, "2aa40d7222637944a0175f9af1b9353192b856fdc58c5b2d50650ca97191a910"), looks := true }, kinds := [], alts := [], laidByText := true, laidKinds := [.data, .data, .data, .data, .sentinel, .sentinel, .data, .pinned], laidTests := true, laidLooks := .later }
def FnWeightsUptoCardSaid : Prop := Claim7.holds Tryz.pinned (.plain (OpenSpec.upto fnWeightsSpec)) fnWeightsUptoCard
end Rows
end Go.Proofs.YtihglnbaoadmcaaGreatDoor
