/- Contract of ref20.Verts. Contract of ref20.Files. Contract of ref20.Of. Graphs that were built: each patch was its author's next one when it came (for ref20.Vec). -/
import Derived.Test.YtllcipobiengiaaGreatXRefF
set_option linter.unusedVariables false
set_option linter.unusedSimpArgs false
namespace Go.Proofs.YtllcipobiengiaaGreat
open Go Go.RowKit

attribute [local irreducible] idsM vertM optV
end Go.Proofs.YtllcipobiengiaaGreat
namespace Go.Proofs.YtllcipobiengiaaGreat
open Go Go.RowKit

attribute [local irreducible] idsM vertsM
end Go.Proofs.YtllcipobiengiaaGreat
namespace Go.Proofs.YtllcipobiengiaaGreat
open Go Go.RowKit

attribute [local irreducible] idsM vertsM
end Go.Proofs.YtllcipobiengiaaGreat
namespace Go.Proofs.YtllcipobiengiaaGreat
open Go Go.RowKit

end Go.Proofs.YtllcipobiengiaaGreat
