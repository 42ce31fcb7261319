/-
  DERIVED. GIVEN WITH THE SEED: THE CARDS: each row of YtflnkmmimoninaaGreatDoorRows.lean that lists a variable, with what it lists TIED to the program's text (the seventh form; the later family's looks); each row that meets fmt, with fmt's text TOLD by the authors' own Lean function (tested against real Go, not proved from fmt's source: count such statements apart). THE CARD IS WHAT COUNTS. Prove the row's statement (the work); the ties are given (YtflnkmmimoninaaGreatDoorTie.lean); close each card by the builder's one call (the guide's Derived/Test/ToyasCard.lean, 'card_holds'). Laid BY PROGRAM, IN A SANDBOX (cutbox-door.mjs). By AI agents, Wed Nov 11 2026. No macro, syntax, notation, axiom, sorry.
-/
import Derived.Test.YtflnkmmimoninaaGreatDoorRows
import GoSem.ClaimSeven
namespace Go.Proofs.YtflnkmmimoninaaGreatDoor
namespace Rows

/-- THE TIED CARD OF 'bruitlaw24.NamesSay'. -/
def namesSayCard : Claim7 := { stood := { row := namesSayRow, standIns := [], harness := (true, "fe6c18060908768c651a0172dd909efe71f9e5605b22dd53b601c027fc812e9c"), looks := false }, kinds := [], alts := [], laidByText := true, laidKinds := [.data, .data, .data], laidTests := true, laidLooks := .later }
def NamesSayCardSaid : Prop := Claim7.holds Tryz.pinned (.plain (OpenSpec.ofChange namesSaySpec)) namesSayCard

/-- THE TIED CARD OF 'bruitlaw24.NamesUnlike'. -/
def namesUnlikeCard : Claim7 := { stood := { row := namesUnlikeRow, standIns := [], harness := (true, "fe6c18060908768c651a0172dd909efe71f9e5605b22dd53b601c027fc812e9c"), looks := false }, kinds := [], alts := [], laidByText := true, laidKinds := [.data, .data, .data], laidTests := true, laidLooks := .later }
def NamesUnlikeCardSaid : Prop := Claim7.holds Tryz.pinned (.plain (OpenSpec.ofChange namesUnlikeSpec)) namesUnlikeCard

/-- THE SECOND FORM's CARD OF 'bruitlaw24.NamesSay'. -/
def namesSayUptoCard : Claim7 := { stood := { row := namesSayUptoRow, standIns := [], harness := (true, "fe6c18060908768c651a0172dd909efe71f9e5605b22dd53b601c027fc812e9c"), looks := false }, kinds := [], alts := [], laidByText := true, laidKinds := [.data, .data, .data], laidTests := true, laidLooks := .later }
def NamesSayUptoCardSaid : Prop := Claim7.holds Tryz.pinned (.plain (OpenSpec.upto namesSaySpec)) namesSayUptoCard

/-- THE SECOND FORM's CARD OF 'bruitlaw24.NamesUnlike'. -/
def namesUnlikeUptoCard : Claim7 := { stood := { row := namesUnlikeUptoRow, standIns := [], harness := (true, "fe6c18060908768c651a0172dd909efe71f9e5605b22dd53b601c027fc812e9c"), looks := false }, kinds := [], alts := [], laidByText := true, laidKinds := [.data, .data, .data], laidTests := true, laidLooks := .later }
def NamesUnlikeUptoCardSaid : Prop := Claim7.holds Tryz.pinned (.plain (OpenSpec.upto namesUnlikeSpec)) namesUnlikeUptoCard
end Rows
end Go.Proofs.YtflnkmmimoninaaGreatDoor
