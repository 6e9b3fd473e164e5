/-
  DERIVED. GIVEN WITH THE SEED: THE CARDS: each row of YtkepagpkphgpeaaGreatDoorRows.lean that lists a variable, with what it lists TIED to the program's text (the seventh form; the later family's looks); each row that meets fmt, with fmt's text TOLD by the authors' own Lean function (tested against real Go, not proved from fmt's source: count such statements apart). THE CARD IS WHAT COUNTS. Prove the row's statement (the work); the ties are given (YtkepagpkphgpeaaGreatDoorTie.lean); close each card by the builder's one call (the guide's Derived/Test/ToyasCard.lean, 'card_holds'). Laid BY PROGRAM, IN A SANDBOX (cutbox-door.mjs). By AI agents, Wed Nov 11 2026. No macro, syntax, notation, axiom, sorry.
-/
import Derived.Test.YtkepagpkphgpeaaGreatDoorRows
import GoSem.ClaimSeven
namespace Go.Proofs.YtkepagpkphgpeaaGreatDoor
namespace Rows

/-- THE TIED CARD OF 'laws.FnExactPatternLibrary'. -/
def fnExactPatternLibraryCard : Claim7 := { stood := { row := fnExactPatternLibraryRow, standIns := [], harness := (true, "b19fc0e46be1b5c41f20d18d595912fd289f5a99b638d91c0d003f2d7e17a605"), looks := true }, kinds := [], alts := [], laidByText := true, laidKinds := [.data, .data, .data, .data, .sentinel, .sentinel, .widerDeep, .pinned], laidTests := true, laidLooks := .later }
def FnExactPatternLibraryCardSaid : Prop := Claim7.holds Tryz.pinned (.plain (OpenSpec.ofChange fnExactPatternLibrarySpec)) fnExactPatternLibraryCard

/-- THE SECOND FORM's CARD OF 'laws.FnExactPatternLibrary'. -/
def fnExactPatternLibraryUptoCard : Claim7 := { stood := { row := fnExactPatternLibraryUptoRow, standIns := [], harness := (true, "b19fc0e46be1b5c41f20d18d595912fd289f5a99b638d91c0d003f2d7e17a605"), looks := true }, kinds := [], alts := [], laidByText := true, laidKinds := [.data, .data, .data, .data, .sentinel, .sentinel, .widerDeep, .pinned], laidTests := true, laidLooks := .later }
def FnExactPatternLibraryUptoCardSaid : Prop := Claim7.holds Tryz.pinned (.plain (OpenSpec.upto fnExactPatternLibrarySpec)) fnExactPatternLibraryUptoCard
end Rows
end Go.Proofs.YtkepagpkphgpeaaGreatDoor
