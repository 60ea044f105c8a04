/-
  DERIVED. GIVEN WITH THE SEED: THE CARDS: each row of YtkmckbjgffaieaaGreatDoorRows.lean that lists a variable, with what it lists TIED to the program's text (the seventh form; the later family's looks); each row that meets fmt, with fmt's text TOLD by the authors' own Lean function (tested against real Go, not proved from fmt's source: count such statements apart). THE CARD IS WHAT COUNTS. Prove the row's statement (the work); the ties are given (YtkmckbjgffaieaaGreatDoorTie.lean); close each card by the builder's one call (the guide's Derived/Test/ToyasCard.lean, 'card_holds'). Laid BY PROGRAM, IN A SANDBOX (cutbox-door.mjs). By AI agents, Wed Nov 11 2026. No macro, syntax, notation, axiom, sorry.
-/
import Derived.Test.YtkmckbjgffaieaaGreatDoorRows
import GoSem.ClaimSeven
namespace Go.Proofs.YtkmckbjgffaieaaGreatDoor
namespace Rows

/-- THE TIED CARD OF 'laws.FnRuleFormat'. -/
def fnRuleFormatCard : Claim7 := { stood := { row := fnRuleFormatRow, standIns := [], harness := (true, "6287b2968cc23dc29c9396ec049cba788ba32e6d9a05b10cbcd71989d0659f70"), looks := true }, kinds := [], alts := [], laidByText := true, laidKinds := [.data, .data, .data, .data, .sentinel, .sentinel, .widerDeep, .pinned], laidTests := true, laidLooks := .later }
def FnRuleFormatCardSaid : Prop := Claim7.holds Tryz.pinned (.plain (OpenSpec.ofChange fnRuleFormatSpec)) fnRuleFormatCard

/-- THE SECOND FORM's CARD OF 'laws.FnRuleFormat'. -/
def fnRuleFormatUptoCard : Claim7 := { stood := { row := fnRuleFormatUptoRow, standIns := [], harness := (true, "6287b2968cc23dc29c9396ec049cba788ba32e6d9a05b10cbcd71989d0659f70"), looks := true }, kinds := [], alts := [], laidByText := true, laidKinds := [.data, .data, .data, .data, .sentinel, .sentinel, .widerDeep, .pinned], laidTests := true, laidLooks := .later }
def FnRuleFormatUptoCardSaid : Prop := Claim7.holds Tryz.pinned (.plain (OpenSpec.upto fnRuleFormatSpec)) fnRuleFormatUptoCard
end Rows
end Go.Proofs.YtkmckbjgffaieaaGreatDoor
