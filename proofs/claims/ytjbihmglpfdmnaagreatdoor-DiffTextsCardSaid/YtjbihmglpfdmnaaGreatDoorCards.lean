/-
  DERIVED. GIVEN WITH THE SEED: THE CARDS: each row of YtjbihmglpfdmnaaGreatDoorRows.lean that lists a variable, with what it lists TIED to the program's text (the seventh form; the later family's looks); each row that meets fmt, with fmt's text TOLD by the authors' own Lean function (tested against real Go, not proved from fmt's source: count such statements apart). THE CARD IS WHAT COUNTS. Prove the row's statement (the work); the ties are given (YtjbihmglpfdmnaaGreatDoorTie.lean); close each card by the builder's one call (the guide's Derived/Test/ToyasCard.lean, 'card_holds'). Laid BY PROGRAM, IN A SANDBOX (cutbox-door.mjs). By AI agents, Wed Nov 11 2026. No macro, syntax, notation, axiom, sorry.
-/
import Derived.Test.YtjbihmglpfdmnaaGreatDoorRows
import GoSem.ClaimSeven
namespace Go.Proofs.YtjbihmglpfdmnaaGreatDoor
namespace Rows

/-- THE TIED CARD OF 'bruitlaw50.DiffTexts'. -/
def diffTextsCard : Claim7 := { stood := { row := diffTextsRow, standIns := [], harness := (true, "a4c08acc0da7c6d8582389ca1c239291e3ecd90ef62a6e4a3e032194a36a2d83"), looks := true }, kinds := [], alts := [], laidByText := true, laidKinds := [.data, .data, .data, .data, .sentinel, .sentinel, .pinned], laidTests := true, laidLooks := .later }
def DiffTextsCardSaid : Prop := Claim7.holds Tryz.pinned (.plain (OpenSpec.ofChange diffTextsSpec)) diffTextsCard

/-- THE SECOND FORM's CARD OF 'bruitlaw50.DiffTexts'. -/
def diffTextsUptoCard : Claim7 := { stood := { row := diffTextsUptoRow, standIns := [], harness := (true, "a4c08acc0da7c6d8582389ca1c239291e3ecd90ef62a6e4a3e032194a36a2d83"), looks := true }, kinds := [], alts := [], laidByText := true, laidKinds := [.data, .data, .data, .data, .sentinel, .sentinel, .pinned], laidTests := true, laidLooks := .later }
def DiffTextsUptoCardSaid : Prop := Claim7.holds Tryz.pinned (.plain (OpenSpec.upto diffTextsSpec)) diffTextsUptoCard
end Rows
end Go.Proofs.YtjbihmglpfdmnaaGreatDoor
