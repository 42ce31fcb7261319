/- The same patches, the same graph: plain. Whatever order patches come in, again and again: the same graph. Plain. The same patches: the same lines, relations and names. Plain. -/
import Derived.Test.YtanfebljiblhbaaGreatDoorHNmP
set_option linter.unusedVariables false
set_option linter.unusedSimpArgs false
namespace Go.Proofs.YtanfebljiblhbaaGreatDoor
open Go

/-! ### what a graph is does not hang on the order -/
section
variable {A B : List PatchM}
end
/-! ### whatever order patches come in -/
end Go.Proofs.YtanfebljiblhbaaGreatDoor
namespace Go.Proofs.YtanfebljiblhbaaGreatDoor
open Go

def rounds(s:List PatchM):Nat→List PatchM
 | 0=>[]
 | k+1=>s.foldl applyM (rounds s k)
end Go.Proofs.YtanfebljiblhbaaGreatDoor
namespace Go.Proofs.YtanfebljiblhbaaGreatDoor
open Go

section
variable {A B : List PatchM}
end
end Go.Proofs.YtanfebljiblhbaaGreatDoor
