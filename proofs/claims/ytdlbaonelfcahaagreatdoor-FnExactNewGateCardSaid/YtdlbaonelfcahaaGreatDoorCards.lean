/-
  DERIVED. GIVEN WITH THE SEED: THE CARDS: each row of YtdlbaonelfcahaaGreatDoorRows.lean that lists a variable, with what it lists TIED to the program's text (the seventh form; the later family's looks); each row that meets fmt, with fmt's text TOLD by the authors' own Lean function (tested against real Go, not proved from fmt's source: count such statements apart). THE CARD IS WHAT COUNTS. Prove the row's statement (the work); the ties are given (YtdlbaonelfcahaaGreatDoorTie.lean); close each card by the builder's one call (the guide's Derived/Test/ToyasCard.lean, 'card_holds'). Laid BY PROGRAM, IN A SANDBOX (cutbox-door.mjs). By AI agents, Wed Nov 11 2026. No macro, syntax, notation, axiom, sorry.
-/
import Derived.Test.YtdlbaonelfcahaaGreatDoorRows
import GoSem.ClaimSeven
namespace Go.Proofs.YtdlbaonelfcahaaGreatDoor
namespace Rows

/-- THE TIED CARD OF 'laws.FnExactNewGate'. -/
def fnExactNewGateCard : Claim7 := { stood := { row := fnExactNewGateRow, standIns := [], harness := (true, "6db581ad49844891a12174dae6bdcef3a0527b6e8f902eeff99ff9dc125ac72f"), looks := true }, kinds := [], alts := [], laidByText := true, laidKinds := [.data, .data, .data, .data, .sentinel, .sentinel, .widerDeep, .pinned], laidTests := true, laidLooks := .later }
def FnExactNewGateCardSaid : Prop := Claim7.holds Tryz.pinned (.plain (OpenSpec.ofChange fnExactNewGateSpec)) fnExactNewGateCard

/-- THE SECOND FORM's CARD OF 'laws.FnExactNewGate'. -/
def fnExactNewGateUptoCard : Claim7 := { stood := { row := fnExactNewGateUptoRow, standIns := [], harness := (true, "6db581ad49844891a12174dae6bdcef3a0527b6e8f902eeff99ff9dc125ac72f"), looks := true }, kinds := [], alts := [], laidByText := true, laidKinds := [.data, .data, .data, .data, .sentinel, .sentinel, .widerDeep, .pinned], laidTests := true, laidLooks := .later }
def FnExactNewGateUptoCardSaid : Prop := Claim7.holds Tryz.pinned (.plain (OpenSpec.upto fnExactNewGateSpec)) fnExactNewGateUptoCard
end Rows
end Go.Proofs.YtdlbaonelfcahaaGreatDoor
