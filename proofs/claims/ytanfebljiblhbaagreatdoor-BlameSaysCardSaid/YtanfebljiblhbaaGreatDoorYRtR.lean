/- Part of the proof that of any graph each file's lines, whose they are, and how many lines any author has, are as the document says. No conditions. -/
import Derived.Test.YtanfebljiblhbaaGreatDoorYNmP
set_option linter.unusedVariables false
set_option linter.unusedSimpArgs false
namespace Go.Proofs.YtanfebljiblhbaaGreatDoor
open Go
section
variable {A B : List PatchM}
end
end Go.Proofs.YtanfebljiblhbaaGreatDoor
namespace Go.Proofs.YtanfebljiblhbaaGreatDoor
open Go
def rounds(s:List PatchM):Nat→List PatchM
 | 0=>[]
 | k+1=>s.foldl applyM (rounds s k)
end Go.Proofs.YtanfebljiblhbaaGreatDoor
namespace Go.Proofs.YtanfebljiblhbaaGreatDoor
open Go
section
variable {A B : List PatchM}
end
end Go.Proofs.YtanfebljiblhbaaGreatDoor
