/- Plain words of layer 24: names of files. -/
import Derived.Test.YtllcipobiengiaaGreatXGrR
import Derived.Lib.ItoaNum
import Derived.Lib.SlicesCompact
set_option linter.unusedVariables false
set_option linter.unusedSimpArgs false
namespace Go.Proofs.YtllcipobiengiaaGreat
open Go Go.RowKit

/-! ### what a vertex is called -/
def textL(v:VidM):List UInt8:=(Lib.decDigits v.pid.author.toNat++46 :: Lib.decDigits v.pid.seq.toNat)++46 :: Lib.decDigits v.n.toNat
def textB(v:VidM):ByteArray:=⟨(textL v).toArray⟩
/-! ### the names of a file, the latest first -/
def laterK(v:VidM):Nat:=(v.pid.seq.toNat*256+v.pid.author.toNat)*256+v.n.toNat
def revK(v:VidM):Nat:=4294967296 - laterK v
def aliveM(L:List PatchM)(f:VidM):List VertM:=(ofM L f 2).filter fun v => !v.dead
def namesM(L:List PatchM)(f:VidM):List VertM:=(setS revK ((aliveM L f).map (·.id))).map fun v=>(vertM L v).getD noVert
/-! ### what all files are called -/
structure NameM where
 file:VidM
 name:ByteArray
 also:List (List UInt8)
 flaws:List UInt8
def tilde:ByteArray:=⟨#[126]⟩
def deadAt(L:List PatchM)(f:VidM):Bool:=((vertM L f).getD noVert).dead
abbrev StN:Type:=List NameM × (ByteArray→Nat)
/-! ### no two files have one name -/
/-- of which form a name is -/
def FormA(n:NameM):Prop:=n.name=tilde++textB n.file∧n.flaws=[3]
def FormB(c:ByteArray→Nat)(n:NameM):Prop:=nameOk n.name=true∧1≤c n.name
def FormC(n:NameM):Prop:=∃ t,nameOk t=true∧n.name=t++(tilde++textB n.file)∧n.flaws≠[]
/-- what is told of one file -/
structure NameOk (L:List PatchM) (n:NameM):Prop where
 alive:deadAt L n.file=false
 file:∃ x,vertM L n.file=some x∧x.kind=1
 given:n.flaws=[]→(∀ x∈namesM L n.file,x.text=n.name)∧namesM L n.file≠[]∧n.also=[]
structure InvN (L:List PatchM) (k:Nat) (s:StN):Prop where
 files:∃ l,l.Sublist ((filesM L).take k)∧s.1.map (·.file)=l
 forms:∀ n∈s.1,FormA n∨FormB s.2 n∨FormC n
 uniq:s.1.Pairwise fun a b=>a.name≠b.name
 ok:∀ n∈s.1,NameOk L n
structure UnlikeM (L:List PatchM) (all:List NameM):Prop where
 rises:all.Pairwise fun a b=>packVid a.file<packVid b.file
 uniq:all.Pairwise fun a b=>a.name≠b.name
 ok:∀ n∈all,NameOk L n
end Go.Proofs.YtllcipobiengiaaGreat
