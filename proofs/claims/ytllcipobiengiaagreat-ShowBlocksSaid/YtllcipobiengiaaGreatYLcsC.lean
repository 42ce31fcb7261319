/- A table of numbers that a call makes: rows of one length in blocks that lie one behind another. Contract of bruitref26.table. Contracts of bruitref26.Match and lcs.Match. -/
import Derived.Deep.OwnRows
import Derived.Test.YtllcipobiengiaaGreatYGrQ
import Derived.Test.YtllcipobiengiaaGreatYRepT
set_option linter.unusedVariables false
set_option linter.unusedSimpArgs false
namespace Go.Proofs.YtllcipobiengiaaGreat
open Go Go.RowKit

end Go.Proofs.YtllcipobiengiaaGreat
namespace Go.Proofs.YtllcipobiengiaaGreat
open Go Go.RowKit

theorem slzRows:SlZ Tryz.prog 173 85 (.slice none 0 0) 24:=slZ_of Tryz.underlying173 (by kernel_rfl) rfl
end Go.Proofs.YtllcipobiengiaaGreat
namespace Go.Proofs.YtllcipobiengiaaGreat
open Go Go.RowKit

theorem slPair:SlT Tryz.prog 48 114 2 16:=slT_of Tryz.underlying48 (by kernel_rfl) (by decide)
def encP(p:Nat × Nat):List Value:=[.int .i64 p.1,.int .i64 p.2]
end Go.Proofs.YtllcipobiengiaaGreat
