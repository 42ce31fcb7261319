/- What is proved: MergeTurns, for every input; of the listed tables the walk needs the powers of ten. -/
import Derived.Test.YtjccmcgglfncdaaGreatDoorUBlkS
set_option linter.unusedVariables false
set_option linter.unusedSimpArgs false
namespace Go.Proofs.YtjccmcgglfncdaaGreatDoor
open Go Go.RowKit
section
attribute [local irreducible] orderM keptI aliveQL deadQL aliveX aliB firmB
end
section
attribute [local irreducible] edgesM vertM optV fileAt
end
section
attribute [local irreducible] placeM linesM relM stepsM edgesM
end
def markV(ms:List Bool):List Value:=ms.map .bool
noncomputable def ftx(l:List VertM)(R:List (Nat × Nat))(k:Nat):List ByteArray:=(firmTo l R k).map (textAt l)
section
attribute [local irreducible] keptV1 markV minus keptTo textAt firmX aliveX firmTo ftx firmB killsE addsTo tiesTo
end
section
attribute [local irreducible] goodP hasM nextM vecM checkM refMet vertM isKind optV
end
section
attribute [local irreducible] checkM goodP hasM vecM
end
end Go.Proofs.YtjccmcgglfncdaaGreatDoor
