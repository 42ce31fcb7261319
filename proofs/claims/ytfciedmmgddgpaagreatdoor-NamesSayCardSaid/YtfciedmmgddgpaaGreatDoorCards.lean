/-
  DERIVED. GIVEN WITH THE SEED: THE CARDS: each row of YtfciedmmgddgpaaGreatDoorRows.lean that lists a variable, with what it lists TIED to the program's text (the seventh form; the later family's looks); each row that meets fmt, with fmt's text TOLD by the authors' own Lean function (tested against real Go, not proved from fmt's source: count such statements apart). THE CARD IS WHAT COUNTS. Prove the row's statement (the work); the ties are given (YtfciedmmgddgpaaGreatDoorTie.lean); close each card by the builder's one call (the guide's Derived/Test/ToyasCard.lean, 'card_holds'). Laid BY PROGRAM, IN A SANDBOX (cutbox-door.mjs). By AI agents, Wed Nov 11 2026. No macro, syntax, notation, axiom, sorry.
-/
import Derived.Test.YtfciedmmgddgpaaGreatDoorRows
import GoSem.ClaimSeven
namespace Go.Proofs.YtfciedmmgddgpaaGreatDoor
namespace Rows

/-- THE TIED CARD OF 'bruitlaw24.NamesSay'. -/
def namesSayCard : Claim7 := { stood := { row := namesSayRow, standIns := [], harness := (true, "59840e291b72fbf94d2e5af7f11d7c1deed2adb71fe54a6d0b6ae6bcddce49a4"), looks := false }, kinds := [], alts := [], laidByText := true, laidKinds := [.data, .data, .data], laidTests := true, laidLooks := .later }
def NamesSayCardSaid : Prop := Claim7.holds Tryz.pinned (.plain (OpenSpec.ofChange namesSaySpec)) namesSayCard

/-- THE SECOND FORM's CARD OF 'bruitlaw24.NamesSay'. -/
def namesSayUptoCard : Claim7 := { stood := { row := namesSayUptoRow, standIns := [], harness := (true, "59840e291b72fbf94d2e5af7f11d7c1deed2adb71fe54a6d0b6ae6bcddce49a4"), looks := false }, kinds := [], alts := [], laidByText := true, laidKinds := [.data, .data, .data], laidTests := true, laidLooks := .later }
def NamesSayUptoCardSaid : Prop := Claim7.holds Tryz.pinned (.plain (OpenSpec.upto namesSaySpec)) namesSayUptoCard
end Rows
end Go.Proofs.YtfciedmmgddgpaaGreatDoor
