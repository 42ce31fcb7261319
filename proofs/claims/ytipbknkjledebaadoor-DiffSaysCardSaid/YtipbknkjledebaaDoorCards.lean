/-
  DERIVED. GIVEN WITH THE SEED: THE CARDS: each row of YtipbknkjledebaaDoorRows.lean that lists a variable, with what it lists TIED to the program's text (the seventh form; the later family's looks); each row that meets fmt, with fmt's text TOLD by the authors' own Lean function (tested against real Go, not proved from fmt's source: count such statements apart). THE CARD IS WHAT COUNTS. Prove the row's statement (the work); the ties are given (YtipbknkjledebaaDoorTie.lean); close each card by the builder's one call (the guide's Derived/Test/ToyasCard.lean, 'card_holds'). Laid BY PROGRAM, IN A SANDBOX (cutbox-door.mjs). By AI agents, Wed Nov 11 2026. No macro, syntax, notation, axiom, sorry.
-/
import Derived.Test.YtipbknkjledebaaDoorRows
import GoSem.ClaimSeven
namespace Go.Proofs.YtipbknkjledebaaDoor
namespace Rows

/-- THE TIED CARD OF 'bruitlaw50.DiffApplies'. -/
def diffAppliesCard : Claim7 := { stood := { row := diffAppliesRow, standIns := [], harness := (true, "7d1ea41bf6f94d28d4f892e6fb96aa0e46df5b2423fd12540d2c5953f4bfdcf8"), looks := false }, kinds := [], alts := [], laidByText := true, laidKinds := [.data, .data, .data], laidTests := true, laidLooks := .later }
def DiffAppliesCardSaid : Prop := Claim7.holds Tryd.pinned (.plain (OpenSpec.ofChange diffAppliesSpec)) diffAppliesCard

/-- THE TIED CARD OF 'bruitlaw50.DiffSays'. -/
def diffSaysCard : Claim7 := { stood := { row := diffSaysRow, standIns := [], harness := (true, "7d1ea41bf6f94d28d4f892e6fb96aa0e46df5b2423fd12540d2c5953f4bfdcf8"), looks := false }, kinds := [], alts := [], laidByText := true, laidKinds := [.data, .data, .data], laidTests := true, laidLooks := .later }
def DiffSaysCardSaid : Prop := Claim7.holds Tryd.pinned (.plain (OpenSpec.ofChange diffSaysSpec)) diffSaysCard

/-- THE SECOND FORM's CARD OF 'bruitlaw50.DiffApplies'. -/
def diffAppliesUptoCard : Claim7 := { stood := { row := diffAppliesUptoRow, standIns := [], harness := (true, "7d1ea41bf6f94d28d4f892e6fb96aa0e46df5b2423fd12540d2c5953f4bfdcf8"), looks := false }, kinds := [], alts := [], laidByText := true, laidKinds := [.data, .data, .data], laidTests := true, laidLooks := .later }
def DiffAppliesUptoCardSaid : Prop := Claim7.holds Tryd.pinned (.plain (OpenSpec.upto diffAppliesSpec)) diffAppliesUptoCard

/-- THE SECOND FORM's CARD OF 'bruitlaw50.DiffSays'. -/
def diffSaysUptoCard : Claim7 := { stood := { row := diffSaysUptoRow, standIns := [], harness := (true, "7d1ea41bf6f94d28d4f892e6fb96aa0e46df5b2423fd12540d2c5953f4bfdcf8"), looks := false }, kinds := [], alts := [], laidByText := true, laidKinds := [.data, .data, .data], laidTests := true, laidLooks := .later }
def DiffSaysUptoCardSaid : Prop := Claim7.holds Tryd.pinned (.plain (OpenSpec.upto diffSaysSpec)) diffSaysUptoCard
end Rows
end Go.Proofs.YtipbknkjledebaaDoor
