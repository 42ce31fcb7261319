/- The tree that is shown, plain: sorted by names, no two the same. The tree by insertion, and the flaws, plain. -/
import Derived.Test.YtanfebljiblhbaaGreatDoorHRcP
import Derived.Test.YtanfebljiblhbaaGreatDoorHRtR
set_option linter.unusedVariables false
set_option linter.unusedSimpArgs false
namespace Go.Proofs.YtanfebljiblhbaaGreatDoor
open Go

/-- the tree of a graph -/
structure IsTree (L:List PatchM) (t:List FileM):Prop where
 perm:t.Perm ((allM L).map (fileT L))
 rise:t.Pairwise fun a b=>ltB a.name b.name=true
end Go.Proofs.YtanfebljiblhbaaGreatDoor
namespace Go.Proofs.YtanfebljiblhbaaGreatDoor
open Go

/-! ### what is at odds -/
structure FlawM where
 kind:UInt8
 file:VidM
deriving DecidableEq
end Go.Proofs.YtanfebljiblhbaaGreatDoor
