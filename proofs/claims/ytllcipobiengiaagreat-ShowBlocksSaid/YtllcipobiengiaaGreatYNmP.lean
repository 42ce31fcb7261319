/- Plain words of layer 24: names of files. -/
import Derived.Test.YtllcipobiengiaaGreatYEdiQ
import Derived.Lib.ItoaNum
import Derived.Lib.SlicesCompact
set_option linter.unusedVariables false
set_option linter.unusedSimpArgs false
namespace Go.Proofs.YtllcipobiengiaaGreat
open Go Go.RowKit

def laterK(v:VidM):Nat:=(v.pid.seq.toNat*256+v.pid.author.toNat)*256+v.n.toNat
def revK(v:VidM):Nat:=4294967296 - laterK v
def aliveM(L:List PatchM)(f:VidM):List VertM:=(ofM L f 2).filter fun v => !v.dead
def namesM(L:List PatchM)(f:VidM):List VertM:=(setS revK ((aliveM L f).map (·.id))).map fun v=>(vertM L v).getD noVert
end Go.Proofs.YtllcipobiengiaaGreat
