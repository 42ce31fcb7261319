/-
  DERIVED. GIVEN WITH THE SEED: THE CARDS: each row of YtjccmcgglfncdaaGreatDoorRows.lean that lists a variable, with what it lists TIED to the program's text (the seventh form; the later family's looks); each row that meets fmt, with fmt's text TOLD by the authors' own Lean function (tested against real Go, not proved from fmt's source: count such statements apart). THE CARD IS WHAT COUNTS. Prove the row's statement (the work); the ties are given (YtjccmcgglfncdaaGreatDoorTie.lean); close each card by the builder's one call (the guide's Derived/Test/ToyasCard.lean, 'card_holds'). Laid BY PROGRAM, IN A SANDBOX (cutbox-door.mjs). By AI agents, Wed Nov 11 2026. No macro, syntax, notation, axiom, sorry.
-/
import Derived.Test.YtjccmcgglfncdaaGreatDoorRows
import GoSem.ClaimSeven
namespace Go.Proofs.YtjccmcgglfncdaaGreatDoor
namespace Rows

/-- THE TIED CARD OF 'bruitlaw28.PlanSays'. -/
def planSaysCard : Claim7 := { stood := { row := planSaysRow, standIns := [], harness := (true, "d43d21dc504f8cc9ed5393b7aca3709a21860727371a93faee68a30f2a380a49"), looks := false }, kinds := [], alts := [], laidByText := true, laidKinds := [.data, .data, .data], laidTests := true, laidLooks := .later }
def PlanSaysCardSaid : Prop := Claim7.holds Tryz.pinned (.plain (OpenSpec.ofChange planSaysSpec)) planSaysCard

/-- THE TIED CARD OF 'bruitlaw28.PlanGives'. -/
def planGivesCard : Claim7 := { stood := { row := planGivesRow, standIns := [], harness := (true, "d43d21dc504f8cc9ed5393b7aca3709a21860727371a93faee68a30f2a380a49"), looks := false }, kinds := [], alts := [], laidByText := true, laidKinds := [.data, .data, .data], laidTests := true, laidLooks := .later }
def PlanGivesCardSaid : Prop := Claim7.holds Tryz.pinned (.plain (OpenSpec.ofChange planGivesSpec)) planGivesCard

/-- THE TIED CARD OF 'bruitlaw28.PlanTwo'. -/
def planTwoCard : Claim7 := { stood := { row := planTwoRow, standIns := [], harness := (true, "d43d21dc504f8cc9ed5393b7aca3709a21860727371a93faee68a30f2a380a49"), looks := false }, kinds := [], alts := [], laidByText := true, laidKinds := [.data, .data, .data], laidTests := true, laidLooks := .later }
def PlanTwoCardSaid : Prop := Claim7.holds Tryz.pinned (.plain (OpenSpec.ofChange planTwoSpec)) planTwoCard

/-- THE TIED CARD OF 'bruitlaw55.MergeKeeps'. -/
def mergeKeepsCard : Claim7 := { stood := { row := mergeKeepsRow, standIns := [], harness := (true, "d43d21dc504f8cc9ed5393b7aca3709a21860727371a93faee68a30f2a380a49"), looks := false }, kinds := [], alts := [], laidByText := true, laidKinds := [.data, .data, .data], laidTests := true, laidLooks := .later }
def MergeKeepsCardSaid : Prop := Claim7.holds Tryz.pinned (.plain (OpenSpec.ofChange mergeKeepsSpec)) mergeKeepsCard

/-- THE TIED CARD OF 'bruitlaw55.MergeTurns'. -/
def mergeTurnsCard : Claim7 := { stood := { row := mergeTurnsRow, standIns := [], harness := (true, "d43d21dc504f8cc9ed5393b7aca3709a21860727371a93faee68a30f2a380a49"), looks := false }, kinds := [], alts := [], laidByText := true, laidKinds := [.data, .data, .data], laidTests := true, laidLooks := .later }
def MergeTurnsCardSaid : Prop := Claim7.holds Tryz.pinned (.plain (OpenSpec.ofChange mergeTurnsSpec)) mergeTurnsCard

/-- THE SECOND FORM's CARD OF 'bruitlaw28.PlanSays'. -/
def planSaysUptoCard : Claim7 := { stood := { row := planSaysUptoRow, standIns := [], harness := (true, "d43d21dc504f8cc9ed5393b7aca3709a21860727371a93faee68a30f2a380a49"), looks := false }, kinds := [], alts := [], laidByText := true, laidKinds := [.data, .data, .data], laidTests := true, laidLooks := .later }
def PlanSaysUptoCardSaid : Prop := Claim7.holds Tryz.pinned (.plain (OpenSpec.upto planSaysSpec)) planSaysUptoCard

/-- THE SECOND FORM's CARD OF 'bruitlaw28.PlanGives'. -/
def planGivesUptoCard : Claim7 := { stood := { row := planGivesUptoRow, standIns := [], harness := (true, "d43d21dc504f8cc9ed5393b7aca3709a21860727371a93faee68a30f2a380a49"), looks := false }, kinds := [], alts := [], laidByText := true, laidKinds := [.data, .data, .data], laidTests := true, laidLooks := .later }
def PlanGivesUptoCardSaid : Prop := Claim7.holds Tryz.pinned (.plain (OpenSpec.upto planGivesSpec)) planGivesUptoCard

/-- THE SECOND FORM's CARD OF 'bruitlaw28.PlanTwo'. -/
def planTwoUptoCard : Claim7 := { stood := { row := planTwoUptoRow, standIns := [], harness := (true, "d43d21dc504f8cc9ed5393b7aca3709a21860727371a93faee68a30f2a380a49"), looks := false }, kinds := [], alts := [], laidByText := true, laidKinds := [.data, .data, .data], laidTests := true, laidLooks := .later }
def PlanTwoUptoCardSaid : Prop := Claim7.holds Tryz.pinned (.plain (OpenSpec.upto planTwoSpec)) planTwoUptoCard

/-- THE SECOND FORM's CARD OF 'bruitlaw55.MergeKeeps'. -/
def mergeKeepsUptoCard : Claim7 := { stood := { row := mergeKeepsUptoRow, standIns := [], harness := (true, "d43d21dc504f8cc9ed5393b7aca3709a21860727371a93faee68a30f2a380a49"), looks := false }, kinds := [], alts := [], laidByText := true, laidKinds := [.data, .data, .data], laidTests := true, laidLooks := .later }
def MergeKeepsUptoCardSaid : Prop := Claim7.holds Tryz.pinned (.plain (OpenSpec.upto mergeKeepsSpec)) mergeKeepsUptoCard

/-- THE SECOND FORM's CARD OF 'bruitlaw55.MergeTurns'. -/
def mergeTurnsUptoCard : Claim7 := { stood := { row := mergeTurnsUptoRow, standIns := [], harness := (true, "d43d21dc504f8cc9ed5393b7aca3709a21860727371a93faee68a30f2a380a49"), looks := false }, kinds := [], alts := [], laidByText := true, laidKinds := [.data, .data, .data], laidTests := true, laidLooks := .later }
def MergeTurnsUptoCardSaid : Prop := Claim7.holds Tryz.pinned (.plain (OpenSpec.upto mergeTurnsSpec)) mergeTurnsUptoCard
end Rows
end Go.Proofs.YtjccmcgglfncdaaGreatDoor
