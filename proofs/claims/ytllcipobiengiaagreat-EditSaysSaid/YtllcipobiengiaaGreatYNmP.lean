/- Plain words of layer 24: names of files. -/
import Derived.Test.YtllcipobiengiaaGreatYGrR
import Derived.Lib.ItoaNum
import Derived.Lib.SlicesCompact
namespace Go.Proofs.YtllcipobiengiaaGreat
open Go Go.RowKit

/-! ### what a vertex is called -/
/-! ### the names of a file, the latest first -/
/-! ### what all files are called -/
/-! ### no two files have one name -/
end Go.Proofs.YtllcipobiengiaaGreat
