/-
  DERIVED. GIVEN WITH THE SEED: THE CARDS: each row of YtanfebljiblhbaaGreatDoorRows.lean that lists a variable, with what it lists TIED to the program's text (the seventh form; the later family's looks); each row that meets fmt, with fmt's text TOLD by the authors' own Lean function (tested against real Go, not proved from fmt's source: count such statements apart). THE CARD IS WHAT COUNTS. Prove the row's statement (the work); the ties are given (YtanfebljiblhbaaGreatDoorTie.lean); close each card by the builder's one call (the guide's Derived/Test/ToyasCard.lean, 'card_holds'). Laid BY PROGRAM, IN A SANDBOX (cutbox-door.mjs). By AI agents, Wed Nov 11 2026. No macro, syntax, notation, axiom, sorry.
-/
import Derived.Test.YtanfebljiblhbaaGreatDoorRows
import GoSem.ClaimSeven
namespace Go.Proofs.YtanfebljiblhbaaGreatDoor
namespace Rows

/-- THE TIED CARD OF 'bruitlaw49.BlameSays'. -/
def blameSaysCard : Claim7 := { stood := { row := blameSaysRow, standIns := [], harness := (true, "f8c27e3798f68c231e1b8442b3500ef7aed8300eb2df53f681cbda42041aefd8"), looks := false }, kinds := [], alts := [], laidByText := true, laidKinds := [.data, .data, .data], laidTests := true, laidLooks := .later }
def BlameSaysCardSaid : Prop := Claim7.holds Tryz.pinned (.plain (OpenSpec.ofChange blameSaysSpec)) blameSaysCard

/-- THE TIED CARD OF 'bruitlaw49.BlameHands'. -/
def blameHandsCard : Claim7 := { stood := { row := blameHandsRow, standIns := [], harness := (true, "f8c27e3798f68c231e1b8442b3500ef7aed8300eb2df53f681cbda42041aefd8"), looks := false }, kinds := [], alts := [], laidByText := true, laidKinds := [.data, .data, .data], laidTests := true, laidLooks := .later }
def BlameHandsCardSaid : Prop := Claim7.holds Tryz.pinned (.plain (OpenSpec.ofChange blameHandsSpec)) blameHandsCard

/-- THE TIED CARD OF 'bruitlaw25.RenderSays'. -/
def renderSaysCard : Claim7 := { stood := { row := renderSaysRow, standIns := [], harness := (true, "f8c27e3798f68c231e1b8442b3500ef7aed8300eb2df53f681cbda42041aefd8"), looks := false }, kinds := [], alts := [], laidByText := true, laidKinds := [.data, .data, .data], laidTests := true, laidLooks := .later }
def RenderSaysCardSaid : Prop := Claim7.holds Tryz.pinned (.plain (OpenSpec.ofChange renderSaysSpec)) renderSaysCard

/-- THE TIED CARD OF 'bruitlaw25.RenderClean'. -/
def renderCleanCard : Claim7 := { stood := { row := renderCleanRow, standIns := [], harness := (true, "f8c27e3798f68c231e1b8442b3500ef7aed8300eb2df53f681cbda42041aefd8"), looks := false }, kinds := [], alts := [], laidByText := true, laidKinds := [.data, .data, .data], laidTests := true, laidLooks := .later }
def RenderCleanCardSaid : Prop := Claim7.holds Tryz.pinned (.plain (OpenSpec.ofChange renderCleanSpec)) renderCleanCard

/-- THE TIED CARD OF 'bruitlaw25.RenderTurns'. -/
def renderTurnsCard : Claim7 := { stood := { row := renderTurnsRow, standIns := [], harness := (true, "f8c27e3798f68c231e1b8442b3500ef7aed8300eb2df53f681cbda42041aefd8"), looks := false }, kinds := [], alts := [], laidByText := true, laidKinds := [.data, .data, .data], laidTests := true, laidLooks := .later }
def RenderTurnsCardSaid : Prop := Claim7.holds Tryz.pinned (.plain (OpenSpec.ofChange renderTurnsSpec)) renderTurnsCard

/-- THE TIED CARD OF 'bruitlaw49.BlameSums'. -/
def blameSumsCard : Claim7 := { stood := { row := blameSumsRow, standIns := [], harness := (true, "f8c27e3798f68c231e1b8442b3500ef7aed8300eb2df53f681cbda42041aefd8"), looks := false }, kinds := [], alts := [], laidByText := true, laidKinds := [.data, .data, .data], laidTests := true, laidLooks := .later }
def BlameSumsCardSaid : Prop := Claim7.holds Tryz.pinned (.plain (OpenSpec.ofChange blameSumsSpec)) blameSumsCard

/-- THE SECOND FORM's CARD OF 'bruitlaw49.BlameSays'. -/
def blameSaysUptoCard : Claim7 := { stood := { row := blameSaysUptoRow, standIns := [], harness := (true, "f8c27e3798f68c231e1b8442b3500ef7aed8300eb2df53f681cbda42041aefd8"), looks := false }, kinds := [], alts := [], laidByText := true, laidKinds := [.data, .data, .data], laidTests := true, laidLooks := .later }
def BlameSaysUptoCardSaid : Prop := Claim7.holds Tryz.pinned (.plain (OpenSpec.upto blameSaysSpec)) blameSaysUptoCard

/-- THE SECOND FORM's CARD OF 'bruitlaw49.BlameHands'. -/
def blameHandsUptoCard : Claim7 := { stood := { row := blameHandsUptoRow, standIns := [], harness := (true, "f8c27e3798f68c231e1b8442b3500ef7aed8300eb2df53f681cbda42041aefd8"), looks := false }, kinds := [], alts := [], laidByText := true, laidKinds := [.data, .data, .data], laidTests := true, laidLooks := .later }
def BlameHandsUptoCardSaid : Prop := Claim7.holds Tryz.pinned (.plain (OpenSpec.upto blameHandsSpec)) blameHandsUptoCard

/-- THE SECOND FORM's CARD OF 'bruitlaw25.RenderSays'. -/
def renderSaysUptoCard : Claim7 := { stood := { row := renderSaysUptoRow, standIns := [], harness := (true, "f8c27e3798f68c231e1b8442b3500ef7aed8300eb2df53f681cbda42041aefd8"), looks := false }, kinds := [], alts := [], laidByText := true, laidKinds := [.data, .data, .data], laidTests := true, laidLooks := .later }
def RenderSaysUptoCardSaid : Prop := Claim7.holds Tryz.pinned (.plain (OpenSpec.upto renderSaysSpec)) renderSaysUptoCard

/-- THE SECOND FORM's CARD OF 'bruitlaw25.RenderClean'. -/
def renderCleanUptoCard : Claim7 := { stood := { row := renderCleanUptoRow, standIns := [], harness := (true, "f8c27e3798f68c231e1b8442b3500ef7aed8300eb2df53f681cbda42041aefd8"), looks := false }, kinds := [], alts := [], laidByText := true, laidKinds := [.data, .data, .data], laidTests := true, laidLooks := .later }
def RenderCleanUptoCardSaid : Prop := Claim7.holds Tryz.pinned (.plain (OpenSpec.upto renderCleanSpec)) renderCleanUptoCard

/-- THE SECOND FORM's CARD OF 'bruitlaw25.RenderTurns'. -/
def renderTurnsUptoCard : Claim7 := { stood := { row := renderTurnsUptoRow, standIns := [], harness := (true, "f8c27e3798f68c231e1b8442b3500ef7aed8300eb2df53f681cbda42041aefd8"), looks := false }, kinds := [], alts := [], laidByText := true, laidKinds := [.data, .data, .data], laidTests := true, laidLooks := .later }
def RenderTurnsUptoCardSaid : Prop := Claim7.holds Tryz.pinned (.plain (OpenSpec.upto renderTurnsSpec)) renderTurnsUptoCard

/-- THE SECOND FORM's CARD OF 'bruitlaw49.BlameSums'. -/
def blameSumsUptoCard : Claim7 := { stood := { row := blameSumsUptoRow, standIns := [], harness := (true, "f8c27e3798f68c231e1b8442b3500ef7aed8300eb2df53f681cbda42041aefd8"), looks := false }, kinds := [], alts := [], laidByText := true, laidKinds := [.data, .data, .data], laidTests := true, laidLooks := .later }
def BlameSumsUptoCardSaid : Prop := Claim7.holds Tryz.pinned (.plain (OpenSpec.upto blameSumsSpec)) blameSumsUptoCard
end Rows
end Go.Proofs.YtanfebljiblhbaaGreatDoor
