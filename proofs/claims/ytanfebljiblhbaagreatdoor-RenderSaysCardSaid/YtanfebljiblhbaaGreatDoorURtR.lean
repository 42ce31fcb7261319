/- Part of the proof that any graph's tree, and what is at odds in it, are as the document says. No conditions. -/
import Derived.Test.YtanfebljiblhbaaGreatDoorUNmP
set_option linter.unusedVariables false
set_option linter.unusedSimpArgs false
namespace Go.Proofs.YtanfebljiblhbaaGreatDoor
open Go
section
variable {A B : List PatchM}
end
end Go.Proofs.YtanfebljiblhbaaGreatDoor
namespace Go.Proofs.YtanfebljiblhbaaGreatDoor
open Go
end Go.Proofs.YtanfebljiblhbaaGreatDoor
namespace Go.Proofs.YtanfebljiblhbaaGreatDoor
open Go
section
variable {A B : List PatchM}
end
end Go.Proofs.YtanfebljiblhbaaGreatDoor
