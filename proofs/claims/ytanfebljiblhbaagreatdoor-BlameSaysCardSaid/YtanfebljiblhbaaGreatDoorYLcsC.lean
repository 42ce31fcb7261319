/- Part of the proof that of any graph each file's lines, whose they are, and how many lines any author has, are as the document says. No conditions. -/
import Derived.Deep.OwnRows
import Derived.Test.YtanfebljiblhbaaGreatDoorYGrQ
import Derived.Test.YtanfebljiblhbaaGreatDoorYWordA
set_option linter.unusedVariables false
set_option linter.unusedSimpArgs false
namespace Go.Proofs.YtanfebljiblhbaaGreatDoor
open Go Go.RowKit
theorem slzRows:SlZ Tryz.prog 215 89 (.slice none 0 0) 24:=slZ_of Tryz.underlying215 (by kernel_rfl) rfl
theorem slPair:SlT Tryz.prog 101 158 2 16:=slT_of Tryz.underlying101 (by kernel_rfl) (by decide)
def encP(p:Nat × Nat):List Value:=[.int .i64 p.1,.int .i64 p.2]
end Go.Proofs.YtanfebljiblhbaaGreatDoor
