/- Part of the proof that of any graph each file's lines, whose they are, and how many lines any author has, are as the document says. No conditions. -/
import Derived.Test.YtanfebljiblhbaaGreatDoorYRcP
import Derived.Test.YtanfebljiblhbaaGreatDoorYRtR
set_option linter.unusedVariables false
set_option linter.unusedSimpArgs false
namespace Go.Proofs.YtanfebljiblhbaaGreatDoor
open Go
end Go.Proofs.YtanfebljiblhbaaGreatDoor
