/-
  No cell of these rows narrows 'for every input' (looked for: loops, veiled, ifaces, maps, wideKeys, modest, calm, conditions, laid).
  DERIVED. THE GIVEN ROWS OF THIS SEAT. 6 by the template 'for every input the law returns true; each argument reads behind the call as it read before'; 0 by the template 'total and deterministic' (their statements: YtllcipobiengiaaGreatTotals.lean).
  GIVEN WITH THE SEED: the statements are not yours to turn. If you find one false, say at which input.
  Laid BY PROGRAM, IN A SANDBOX (cutbox-rows.mjs): the forced cells as the released guide's own fill.sh prints them over the translation a150dad6cbd6e0b9… (all of the seat's roots in one cut). By AI agents, Wed Nov 11 2026. No macro, syntax, notation, axiom, sorry.
-/
import Derived.Test.YtllcipobiengiaaGreatChecked
import GoSem.Claim
import GoSem.ClaimJoined
import GoSem.ClaimMapViews
import Derived.JoinedTies
import Derived.KernelRfl
namespace Go.Proofs.YtllcipobiengiaaGreat
/- THE CELL 'sum', in the pinned program and in every row, IS THE sha256 OF THE DUMP (.gsa) THAT YtllcipobiengiaaGreatProg.lean LOADS. Nothing in Lean hashes anything: it is a label: what it is worth is what the hold of that sum in a sandbox is worth. -/
noncomputable def Tryz.pinned : Pinned := { name := "ytllcipobiengiaagreat", sum := "a150dad6cbd6e0b9be274556c167492cabf4ad41c4fa7b8ecd69a465386b0b51", checked := Tryz.checked }
namespace Rows
def none {H : Type} : Left H := { results := [], args := [] }

/-- 'bruitlaw27.EditSays': WHATEVER THE INPUT: true; the input reads as it did. -/
def editSaysSpec : ChangeSpec := { name := "editSays", fn := fun _ => fun
  | [d1, d2, d3] => { results := [.lit (.bool true)], args := [d1, d2, d3] }
  | _ => none }
def editSaysRow : OpenClaim := { program := "ytllcipobiengiaagreat", sum := "a150dad6cbd6e0b9be274556c167492cabf4ad41c4fa7b8ecd69a465386b0b51", func := "bruit/bruitlaw27.EditSays", spec := "editSays", inPlace := ["internal/bytealg.IndexByteString"], unfollowed := true, recurses := true, plainKeys := false, apart := false }
def EditSaysSaid : Prop := editSaysRow.holds Tryz.pinned (OpenSpec.ofChange editSaysSpec)

/-- ITS FALSE NEIGHBOUR: 'it returns false'. Refute it at one input. -/
def editSaysWrong : ChangeSpec := { name := "editSays", fn := fun _ => fun
  | [d1, d2, d3] => { results := [.lit (.bool false)], args := [d1, d2, d3] }
  | _ => none }
def EditSaysWrongFalsely : Prop := editSaysRow.holds Tryz.pinned (OpenSpec.ofChange editSaysWrong)

/-- 'bruitlaw27.EditKeeps': WHATEVER THE INPUT: true; the input reads as it did. -/
def editKeepsSpec : ChangeSpec := { name := "editKeeps", fn := fun _ => fun
  | [d1, d2] => { results := [.lit (.bool true)], args := [d1, d2] }
  | _ => none }
def editKeepsRow : OpenClaim := { program := "ytllcipobiengiaagreat", sum := "a150dad6cbd6e0b9be274556c167492cabf4ad41c4fa7b8ecd69a465386b0b51", func := "bruit/bruitlaw27.EditKeeps", spec := "editKeeps", inPlace := ["internal/bytealg.IndexByteString"], unfollowed := true, recurses := true, plainKeys := false, apart := false }
def EditKeepsSaid : Prop := editKeepsRow.holds Tryz.pinned (OpenSpec.ofChange editKeepsSpec)

/-- ITS FALSE NEIGHBOUR: 'it returns false'. Refute it at one input. -/
def editKeepsWrong : ChangeSpec := { name := "editKeeps", fn := fun _ => fun
  | [d1, d2] => { results := [.lit (.bool false)], args := [d1, d2] }
  | _ => none }
def EditKeepsWrongFalsely : Prop := editKeepsRow.holds Tryz.pinned (OpenSpec.ofChange editKeepsWrong)

/-- 'bruitlaw27.EditGives': WHATEVER THE INPUT: true; the input reads as it did. -/
def editGivesSpec : ChangeSpec := { name := "editGives", fn := fun _ => fun
  | [d1, d2, d3] => { results := [.lit (.bool true)], args := [d1, d2, d3] }
  | _ => none }
def editGivesRow : OpenClaim := { program := "ytllcipobiengiaagreat", sum := "a150dad6cbd6e0b9be274556c167492cabf4ad41c4fa7b8ecd69a465386b0b51", func := "bruit/bruitlaw27.EditGives", spec := "editGives", inPlace := ["internal/bytealg.IndexByteString"], unfollowed := true, recurses := true, plainKeys := false, apart := false }
def EditGivesSaid : Prop := editGivesRow.holds Tryz.pinned (OpenSpec.ofChange editGivesSpec)

/-- ITS FALSE NEIGHBOUR: 'it returns false'. Refute it at one input. -/
def editGivesWrong : ChangeSpec := { name := "editGives", fn := fun _ => fun
  | [d1, d2, d3] => { results := [.lit (.bool false)], args := [d1, d2, d3] }
  | _ => none }
def EditGivesWrongFalsely : Prop := editGivesRow.holds Tryz.pinned (OpenSpec.ofChange editGivesWrong)

/-- 'bruitlaw23.ShowSays': WHATEVER THE INPUT: true; the input reads as it did. -/
def showSaysSpec : ChangeSpec := { name := "showSays", fn := fun _ => fun
  | [d] => { results := [.lit (.bool true)], args := [d] }
  | _ => none }
def showSaysRow : OpenClaim := { program := "ytllcipobiengiaagreat", sum := "a150dad6cbd6e0b9be274556c167492cabf4ad41c4fa7b8ecd69a465386b0b51", func := "bruit/bruitlaw23.ShowSays", spec := "showSays", inPlace := ["internal/bytealg.IndexByteString"], unfollowed := true, recurses := true, plainKeys := false, apart := false }
def ShowSaysSaid : Prop := showSaysRow.holds Tryz.pinned (OpenSpec.ofChange showSaysSpec)

/-- ITS FALSE NEIGHBOUR: 'it returns false'. Refute it at one input. -/
def showSaysWrong : ChangeSpec := { name := "showSays", fn := fun _ => fun
  | [d] => { results := [.lit (.bool false)], args := [d] }
  | _ => none }
def ShowSaysWrongFalsely : Prop := showSaysRow.holds Tryz.pinned (OpenSpec.ofChange showSaysWrong)

/-- 'bruitlaw23.ShowBlocks': WHATEVER THE INPUT: true; the input reads as it did. -/
def showBlocksSpec : ChangeSpec := { name := "showBlocks", fn := fun _ => fun
  | [d1, d2, d3] => { results := [.lit (.bool true)], args := [d1, d2, d3] }
  | _ => none }
def showBlocksRow : OpenClaim := { program := "ytllcipobiengiaagreat", sum := "a150dad6cbd6e0b9be274556c167492cabf4ad41c4fa7b8ecd69a465386b0b51", func := "bruit/bruitlaw23.ShowBlocks", spec := "showBlocks", inPlace := ["internal/bytealg.IndexByteString"], unfollowed := true, recurses := true, plainKeys := false, apart := false }
def ShowBlocksSaid : Prop := showBlocksRow.holds Tryz.pinned (OpenSpec.ofChange showBlocksSpec)

/-- ITS FALSE NEIGHBOUR: 'it returns false'. Refute it at one input. -/
def showBlocksWrong : ChangeSpec := { name := "showBlocks", fn := fun _ => fun
  | [d1, d2, d3] => { results := [.lit (.bool false)], args := [d1, d2, d3] }
  | _ => none }
def ShowBlocksWrongFalsely : Prop := showBlocksRow.holds Tryz.pinned (OpenSpec.ofChange showBlocksWrong)

/-- 'bruitlaw23.ShowWhole': WHATEVER THE INPUT: true; the input reads as it did. -/
def showWholeSpec : ChangeSpec := { name := "showWhole", fn := fun _ => fun
  | [d] => { results := [.lit (.bool true)], args := [d] }
  | _ => none }
def showWholeRow : OpenClaim := { program := "ytllcipobiengiaagreat", sum := "a150dad6cbd6e0b9be274556c167492cabf4ad41c4fa7b8ecd69a465386b0b51", func := "bruit/bruitlaw23.ShowWhole", spec := "showWhole", inPlace := ["internal/bytealg.IndexByteString"], unfollowed := true, recurses := true, plainKeys := false, apart := false }
def ShowWholeSaid : Prop := showWholeRow.holds Tryz.pinned (OpenSpec.ofChange showWholeSpec)

/-- ITS FALSE NEIGHBOUR: 'it returns false'. Refute it at one input. -/
def showWholeWrong : ChangeSpec := { name := "showWhole", fn := fun _ => fun
  | [d] => { results := [.lit (.bool false)], args := [d] }
  | _ => none }
def ShowWholeWrongFalsely : Prop := showWholeRow.holds Tryz.pinned (OpenSpec.ofChange showWholeWrong)

/- THE SECOND FORM. 'bulk': how many values and letters a reading holds, each counted each time it is reached (what is shared counts as often as it is met; a slice's spare places count too). A statement '..UptoSaid' is the law's where the arguments, and the package variables that the reading takes, are together of bulk at most 1048576: NARROWER than '..Said'. Prove '..Said' where nothing that the law and all that it calls make is longer than what came in: it says more and counts as full. Else prove '..UptoSaid'. A law counts once. -/
mutual
def uptoBulk {H : Type} : DataW H → Nat
  | .lit (.string bytes) => bytes.length + 1
  | .lit _ => 1
  | .nil => 1
  | .ptr d => uptoBulk d + 1
  | .slice elems spare => uptoBulkAll elems + uptoBulkAll spare + 1
  | .agg parts => uptoBulkAll parts + 1
  | .iface _ d => uptoBulk d + 1
  | .map entries => uptoBulkEntries entries + 1
  | .held _ => 1
def uptoBulkAll {H : Type} : List (DataW H) → Nat
  | [] => 0
  | d :: r => uptoBulk d + uptoBulkAll r
def uptoBulkEntries {H : Type} : List (Lit × DataW H) → Nat
  | [] => 0
  | x :: r => uptoBulkEntry x + uptoBulkEntries r
def uptoBulkEntry {H : Type} : Lit × DataW H → Nat
  | (.string bytes, d) => bytes.length + uptoBulk d + 1
  | (_, d) => uptoBulk d + 1
 end
def uptoSmall : (H : Type) → List (DataW H) → Bool := fun _ ds => decide (uptoBulkAll ds ≤ 1048576)
def OpenSpec.upto (s : _root_.Go.ChangeSpec) : _root_.Go.OpenSpec := { _root_.Go.OpenSpec.ofChange s with cond := some uptoSmall }

/-- 'bruitlaw27.EditSays', WHERE WHAT IT READS IS OF BULK AT MOST 1048576: true; the input reads as it did. -/
def editSaysUptoRow : OpenClaim := { program := "ytllcipobiengiaagreat", sum := "a150dad6cbd6e0b9be274556c167492cabf4ad41c4fa7b8ecd69a465386b0b51", func := "bruit/bruitlaw27.EditSays", spec := "editSays", inPlace := ["internal/bytealg.IndexByteString"], unfollowed := true, recurses := true, plainKeys := false, apart := false, narrowed := true }
def EditSaysUptoSaid : Prop := editSaysUptoRow.holds Tryz.pinned (OpenSpec.upto editSaysSpec)

/-- 'bruitlaw27.EditKeeps', WHERE WHAT IT READS IS OF BULK AT MOST 1048576: true; the input reads as it did. -/
def editKeepsUptoRow : OpenClaim := { program := "ytllcipobiengiaagreat", sum := "a150dad6cbd6e0b9be274556c167492cabf4ad41c4fa7b8ecd69a465386b0b51", func := "bruit/bruitlaw27.EditKeeps", spec := "editKeeps", inPlace := ["internal/bytealg.IndexByteString"], unfollowed := true, recurses := true, plainKeys := false, apart := false, narrowed := true }
def EditKeepsUptoSaid : Prop := editKeepsUptoRow.holds Tryz.pinned (OpenSpec.upto editKeepsSpec)

/-- 'bruitlaw27.EditGives', WHERE WHAT IT READS IS OF BULK AT MOST 1048576: true; the input reads as it did. -/
def editGivesUptoRow : OpenClaim := { program := "ytllcipobiengiaagreat", sum := "a150dad6cbd6e0b9be274556c167492cabf4ad41c4fa7b8ecd69a465386b0b51", func := "bruit/bruitlaw27.EditGives", spec := "editGives", inPlace := ["internal/bytealg.IndexByteString"], unfollowed := true, recurses := true, plainKeys := false, apart := false, narrowed := true }
def EditGivesUptoSaid : Prop := editGivesUptoRow.holds Tryz.pinned (OpenSpec.upto editGivesSpec)

/-- 'bruitlaw23.ShowSays', WHERE WHAT IT READS IS OF BULK AT MOST 1048576: true; the input reads as it did. -/
def showSaysUptoRow : OpenClaim := { program := "ytllcipobiengiaagreat", sum := "a150dad6cbd6e0b9be274556c167492cabf4ad41c4fa7b8ecd69a465386b0b51", func := "bruit/bruitlaw23.ShowSays", spec := "showSays", inPlace := ["internal/bytealg.IndexByteString"], unfollowed := true, recurses := true, plainKeys := false, apart := false, narrowed := true }
def ShowSaysUptoSaid : Prop := showSaysUptoRow.holds Tryz.pinned (OpenSpec.upto showSaysSpec)

/-- 'bruitlaw23.ShowBlocks', WHERE WHAT IT READS IS OF BULK AT MOST 1048576: true; the input reads as it did. -/
def showBlocksUptoRow : OpenClaim := { program := "ytllcipobiengiaagreat", sum := "a150dad6cbd6e0b9be274556c167492cabf4ad41c4fa7b8ecd69a465386b0b51", func := "bruit/bruitlaw23.ShowBlocks", spec := "showBlocks", inPlace := ["internal/bytealg.IndexByteString"], unfollowed := true, recurses := true, plainKeys := false, apart := false, narrowed := true }
def ShowBlocksUptoSaid : Prop := showBlocksUptoRow.holds Tryz.pinned (OpenSpec.upto showBlocksSpec)

/-- 'bruitlaw23.ShowWhole', WHERE WHAT IT READS IS OF BULK AT MOST 1048576: true; the input reads as it did. -/
def showWholeUptoRow : OpenClaim := { program := "ytllcipobiengiaagreat", sum := "a150dad6cbd6e0b9be274556c167492cabf4ad41c4fa7b8ecd69a465386b0b51", func := "bruit/bruitlaw23.ShowWhole", spec := "showWhole", inPlace := ["internal/bytealg.IndexByteString"], unfollowed := true, recurses := true, plainKeys := false, apart := false, narrowed := true }
def ShowWholeUptoSaid : Prop := showWholeUptoRow.holds Tryz.pinned (OpenSpec.upto showWholeSpec)

end Rows
end Go.Proofs.YtllcipobiengiaaGreat
