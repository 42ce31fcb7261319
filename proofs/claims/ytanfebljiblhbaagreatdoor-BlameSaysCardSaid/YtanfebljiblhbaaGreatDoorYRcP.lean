/- Part of the proof that of any graph each file's lines, whose they are, and how many lines any author has, are as the document says. No conditions. -/
import Derived.Test.YtanfebljiblhbaaGreatDoorYBlmP
set_option linter.unusedVariables false
set_option linter.unusedSimpArgs false
namespace Go.Proofs.YtanfebljiblhbaaGreatDoor
open Go Go.RowKit
end Go.Proofs.YtanfebljiblhbaaGreatDoor
namespace Go.Proofs.YtanfebljiblhbaaGreatDoor
open Go
noncomputable def fileT(L:List PatchM)(n:NameM):FileM:=⟨n.name,n.also.map fun t=>⟨t.toArray⟩,lnSeen (linesM L n.file) (relM L n.file)⟩
section
variable {L : List PatchM}
end
end Go.Proofs.YtanfebljiblhbaaGreatDoor
