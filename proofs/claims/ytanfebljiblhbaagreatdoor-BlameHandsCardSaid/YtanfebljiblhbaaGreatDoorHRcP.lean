/- Nothing is hidden, plain: what is seen of the blocks of a list. No line is a mark. RenderClean, plain: what is at odds is seen. -/
import Derived.Test.YtanfebljiblhbaaGreatDoorHBlmP
set_option linter.unusedVariables false
set_option linter.unusedSimpArgs false
namespace Go.Proofs.YtanfebljiblhbaaGreatDoor
open Go Go.RowKit

def cntM(xs:List ByteArray)(s:ByteArray):Nat:=(xs.filter fun x=>decide (x=s)).length
theorem cnt_append(a b:List ByteArray)(s:ByteArray):cntM (a++b) s=cntM a s+cntM b s:=by unfold cntM;rw [List.filter_append,List.length_append]
def isMark(t:ByteArray):Bool:=decide (t=markA) || decide (t=markE) || decide (t=markS) || decide (t=markT)
/-- what is not a mark -/
def bareT(xs:List ByteArray):List ByteArray:=xs.filter fun t => !isMark t
theorem bareT_append(a b:List ByteArray):bareT (a++b)=bareT a++bareT b:=List.filter_append ..
/-- what the three hold of blocks: lines without marks are the texts; the marks of beginning and end are as many as are odd -/
structure Told (l:List VertM) (seen txt:List ByteArray) (odd:Nat):Prop where
 bare:bareT seen=txt
 first:cntM seen markA=odd
 last:cntM seen markE=odd
theorem Told.append{l:List VertM}{s1 s2 t1 t2:List ByteArray}{o1 o2:Nat}(h1:Told l s1 t1 o1)(h2:Told l s2 t2 o2):Told l (s1++s2) (t1++t2) (o1+o2):=
 ⟨by rw [bareT_append,h1.bare,h2.bare],by rw [cnt_append,h1.first,h2.first],by rw [cnt_append,h1.last,h2.last]⟩
/-! ### the blocks of a list have its lines -/
/-! ### what is seen of a sheet -/
end Go.Proofs.YtanfebljiblhbaaGreatDoor
namespace Go.Proofs.YtanfebljiblhbaaGreatDoor
open Go Go.RowKit

end Go.Proofs.YtanfebljiblhbaaGreatDoor
namespace Go.Proofs.YtanfebljiblhbaaGreatDoor
open Go

/-- a file as it is shown -/
noncomputable def fileT(L:List PatchM)(n:NameM):FileM:=⟨n.name,n.also.map fun t=>⟨t.toArray⟩,lnSeen (linesM L n.file) (relM L n.file)⟩
section
variable {L : List PatchM}
end
end Go.Proofs.YtanfebljiblhbaaGreatDoor
