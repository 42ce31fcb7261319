/- Contract of bruitref18.own. Contract of bruitref18.one. Contract of bruitref18.Good. -/
import Derived.Test.YtanfebljiblhbaaGreatDoorHSuits
set_option linter.unusedVariables false
set_option linter.unusedSimpArgs false
namespace Go.Proofs.YtanfebljiblhbaaGreatDoor
open Go Go.RowKit

def ownM(id:PidM)(ops:List OpM)(v:VidM)(k:UInt8):Bool:=decide (v.pid≠id) || (match ops[v.n.toNat]? with|some o=>o.kind == k|none=>false)
attribute [local irreducible] ownM
end Go.Proofs.YtanfebljiblhbaaGreatDoor
namespace Go.Proofs.YtanfebljiblhbaaGreatDoor
open Go Go.RowKit

def kindsR(id:PidM)(ops:List OpM)(o:OpM):Bool:=
 if o.kind=2∨o.kind=3 then ownM id ops o.at' 1
 else if o.kind=4 then ownM id ops o.at' 3 && (ownM id ops o.to 3 && (decide (o.at'.pid≠id) || (decide (o.to.pid≠id) || decide ((ops[o.at'.n.toNat]?).map (·.at')=(ops[o.to.n.toNat]?).map (·.at')))))
 else true
def oneR(id:PidM)(ops:List OpM)(i:Nat)(o:OpM):Bool:=opGood id i o && (!laterB id o && (!(decide (4≤o.kind.toNat) && decide (o∈ops.take i)) && kindsR id ops o))
attribute [local irreducible] refsM opGood laterB oneR kindsR ownM laterOne
end Go.Proofs.YtanfebljiblhbaaGreatDoor
namespace Go.Proofs.YtanfebljiblhbaaGreatDoor
open Go Go.RowKit

def loopR(id:PidM)(ops:List OpM):Bool:=(List.range ops.length).all fun i=>match ops[i]? with|some o=>oneR id ops i o|none=>false
def goodR(id:PidM)(deps:List PidM)(ops:List OpM):Bool:=goodPid id && (decide (1≤ops.length) && (decide (ops.length≤200) && (decide (deps=depsM id ops) && loopR id ops)))
theorem goodR_eq(p:PatchM):goodR p.id p.deps p.ops=goodP p:=rfl
attribute [local irreducible] refsM opGood laterB oneR loopR goodR goodPid depsM
end Go.Proofs.YtanfebljiblhbaaGreatDoor
