/- What is proved: MergeTurns, for every input; of the listed tables the walk needs the powers of ten. -/
import Derived.Test.YtjccmcgglfncdaaGreatDoorUGraphF
set_option linter.unusedVariables false
set_option linter.unusedSimpArgs false
namespace Go.Proofs.YtjccmcgglfncdaaGreatDoor
open Go Go.RowKit
structure LaidP where
 p:PatchM
 dv:Value
 ov:Value
def encPat(x:LaidP):List Value:=[.int .u8 x.p.id.author.toNat,.int .u16 x.p.id.seq.toNat,x.dv,x.ov]
theorem encPat_len(x:LaidP):(encPat x).length=4:=rfl
section
attribute [local irreducible] madeBy vertM deadM vertOp
end
section
attribute [local irreducible] vertM isK optV
end
section
attribute [local irreducible] cmpVid
end
theorem encEdge_len(e:EdgeM):(encEdge e).length=6:=rfl
theorem slEdge:SlT Tryz.prog 139 133 6 12:=slT_of Tryz.underlying139 (by kernel_rfl) (by decide)
theorem slPat:SlT Tryz.prog 22 44 4 56:=slT_of Tryz.underlying22 (by kernel_rfl) (by decide)
end Go.Proofs.YtjccmcgglfncdaaGreatDoor
