/- What is proved: MergeTurns, for every input; of the listed tables the walk needs the powers of ten. -/
import Derived.Test.YtjccmcgglfncdaaGreatDoorUTreeP
set_option linter.unusedVariables false
set_option linter.unusedSimpArgs false
namespace Go.Proofs.YtjccmcgglfncdaaGreatDoor
open Go Go.RowKit
structure PidM where
 author:UInt8
 seq:UInt16
deriving DecidableEq,Inhabited
structure VidM where
 pid:PidM
 n:UInt8
deriving DecidableEq,Inhabited
structure OpM where
 kind:UInt8
 at':VidM
 to:VidM
 text:ByteArray
deriving DecidableEq
structure PatchM where
 id:PidM
 deps:List PidM
 ops:List OpM
deriving DecidableEq
structure VertM where
 id:VidM
 kind:UInt8
 file:VidM
 text:ByteArray
 dead:Bool
deriving DecidableEq
abbrev EdgeM:Type:=VidM × VidM
def noPid:PidM:=⟨0,0⟩
def noVid:VidM:=⟨noPid,0⟩
def noVert:VertM:=⟨noVid,0,noVid,⟨#[]⟩,false⟩
def goodPid(p:PidM):Bool:=decide (1≤p.author.toNat) && (decide (p.author.toNat≤64) && (decide (1≤p.seq.toNat) && decide (p.seq.toNat≤60000)))
def goodVid(v:VidM):Bool:=goodPid v.pid && decide (v.n.toNat<200)
def packPid(p:PidM):Nat:=p.author.toNat*65536+p.seq.toNat
def packVid(v:VidM):Nat:=packPid v.pid*256+v.n.toNat
def cmpN(a b:Nat):Int:=if a<b then -1 else if b<a then 1 else 0
def cmpPid(a b:PidM):Int:=cmpN (packPid a) (packPid b)
def cmpVid(a b:VidM):Int:=cmpN (packVid a) (packVid b)
theorem packPid_inj{a b:PidM}(h:packPid a=packPid b):a=b:=by
 obtain⟨a1,a2⟩:=a;obtain⟨b1,b2⟩:=b;have h1:=a2.toNat_lt;have h2:=b2.toNat_lt;simp only [packPid] at h;have e1:a1.toNat=b1.toNat:=by omega
 have e2:a2.toNat=b2.toNat:=by omega
 rw [UInt8.toNat_inj.1 e1,UInt16.toNat_inj.1 e2]
theorem packVid_inj{a b:VidM}(h:packVid a=packVid b):a=b:=by
 obtain⟨a1,a2⟩:=a;obtain⟨b1,b2⟩:=b;have h1:=a2.toNat_lt;have h2:=b2.toNat_lt;simp only [packVid] at h;have e1:packPid a1=packPid b1:=by omega
 have e2:a2.toNat=b2.toNat:=by omega
 rw [packPid_inj e1,UInt8.toNat_inj.1 e2]
theorem packPid_lt(p:PidM):packPid p<16777216:=by have h1:=p.author.toNat_lt;have h2:=p.seq.toNat_lt;unfold packPid;omega
theorem packVid_lt(v:VidM):packVid v<4294967296:=by have h1:=packPid_lt v.pid;have h2:=v.n.toNat_lt;unfold packVid;omega
section
variable {α : Type} {key : α → Nat}
def Rises(key:α→Nat)(l:List α):Prop:=l.Pairwise fun a b=>key a<key b
def putS(key:α→Nat)(x:α):List α→List α
 | []=>[x]
 | y :: l=>if key x<key y then x :: y :: l else if key x=key y then y :: l else y :: putS key x l
theorem mem_putS(hi:∀ a b,key a=key b→a=b)(x y:α):∀ l:List α,y∈putS key x l↔y=x∨y∈l
 | []=>by simp [putS]
 | z :: l=>by
  rw [putS];split
  · simp
  split
  ·
   rename_i h;have:=hi _ _ h;subst this;simp only [List.mem_cons];constructor
   · exact fun h=>.inr h
   rintro(rfl|h)
   · exact .inl rfl
   exact h
  rw [List.mem_cons,mem_putS hi x y l,List.mem_cons];constructor
  ·
   rintro(h|h|h)
   · exact .inr (.inl h)
   · exact .inl h
   exact .inr (.inr h)
  rintro(h|h|h)
  · exact .inr (.inl h)
  · exact .inl h
  exact .inr (.inr h)
theorem rises_putS(hi:∀ a b,key a=key b→a=b)(x:α):∀ {l:List α},Rises key l→Rises key (putS key x l)
 | [],_=>by simp [putS,Rises]
 | z :: l,h=>by
  have h':=List.pairwise_cons.1 h;rw [putS];split
  ·
   rename_i hlt;refine List.pairwise_cons.2 ⟨fun y hy => ?_,h⟩;rcases List.mem_cons.1 hy with rfl|hy
   · exact hlt
   exact Nat.lt_trans hlt (h'.1 y hy)
  split
  · exact h
  rename_i h1 h2;refine List.pairwise_cons.2 ⟨fun y hy => ?_,rises_putS hi x h'.2⟩;rcases (mem_putS hi x y l).1 hy with rfl|hy
  · omega
  exact h'.1 y hy
theorem rises_ext:∀ {l m:List α},Rises key l→Rises key m→(∀ x,x∈l↔x∈m)→l=m
 | [],[],_,_,_=>rfl
 | [],y :: m,_,_,h=>by have:=(h y).2 (by simp);simp at this
 | x :: l,[],_,_,h=>by have:=(h x).1 (by simp);simp at this
 | x :: l,y :: m,hl,hm,h=>by
  have hl':=List.pairwise_cons.1 hl;have hm':=List.pairwise_cons.1 hm;have hxy:x=y:=by
   have h1:=(h x).1 (by simp);have h2:=(h y).2 (by simp);rcases List.mem_cons.1 h1 with e|h1
   · exact e
   rcases List.mem_cons.1 h2 with e|h2
   · exact e.symm
   have a:=hm'.1 x h1;have b:=hl'.1 y h2;omega
  subst hxy;congr 1;refine rises_ext hl'.2 hm'.2 fun z => ?_;have hz:=h z;simp only [List.mem_cons] at hz;constructor
  ·
   intro hz1;rcases hz.1 (.inr hz1) with rfl|h2
   · have:=hl'.1 z hz1;omega
   exact h2
  intro hz1;rcases hz.2 (.inr hz1) with rfl|h2
  · have:=hm'.1 z hz1;omega
  exact h2
def setS(key:α→Nat)(l:List α):List α:=l.foldl (fun out x=>putS key x out) []
theorem setS_go(hi:∀ a b,key a=key b→a=b):∀(l out:List α),Rises key out→Rises key (l.foldl (fun out x=>putS key x out) out)∧∀ y,y∈l.foldl (fun out x=>putS key x out) out↔y∈out∨y∈l
 | [],out,h=>⟨h,by simp⟩
 | x :: l,out,h=>by
  obtain⟨h1,h2⟩:=setS_go hi l (putS key x out) (rises_putS hi x h);refine⟨h1,fun y => ?_⟩;rw [List.foldl_cons,h2,mem_putS hi,List.mem_cons];constructor
  ·
   rintro((h|h)|h)
   · exact .inr (.inl h)
   · exact .inl h
   exact .inr (.inr h)
  rintro(h|h|h)
  · exact .inl (.inr h)
  · exact .inl (.inl h)
  exact .inr h
theorem rises_setS(hi:∀ a b,key a=key b→a=b)(l:List α):Rises key (setS key l):=(setS_go hi l [] List.Pairwise.nil).1
theorem mem_setS(hi:∀ a b,key a=key b→a=b)(l:List α)(y:α):y∈setS key l↔y∈l:=by have:=(setS_go hi l [] List.Pairwise.nil).2 y;unfold setS;rw [this];simp
theorem setS_eq(hi:∀ a b,key a=key b→a=b){l m:List α}(hm:Rises key m)(h:∀ x,x∈m↔x∈l):setS key l=m:=
 rises_ext (rises_setS hi l) hm fun x=>(mem_setS hi l x).trans (h x).symm
end
def makesB(k:UInt8):Bool:=k == 1 || (k == 2 || k == 3)
def refsM(o:OpM):List VidM:=if o.kind=2∨o.kind=3∨o.kind=5 then [o.at'] else if o.kind=4 then [o.at',o.to] else []
def refOk(id:PidM)(i:Nat)(v:VidM):Bool:=goodVid v && !(decide (v.pid=id) && decide (i≤v.n.toNat))
def opTail(id:PidM)(o:OpM):Bool:=
 if o.kind=1 then decide (o.at'=noVid) && (decide (o.to=noVid) && decide (o.text.size=0))
 else if o.kind=2 then decide (o.to=noVid) && nameOk o.text
 else if o.kind=3 then decide (o.to=noVid) && lineOk o.text
 else if o.kind=4 then decide (o.at'≠o.to) && decide (o.text.size=0)
 else if o.kind=5 then decide (o.at'.pid≠id) && (decide (o.to=noVid) && decide (o.text.size=0))
 else false
def opGood(id:PidM)(i:Nat)(o:OpM):Bool:=(refsM o).all (refOk id i) && opTail id o
def depsOf(id:PidM)(ops:List OpM):List PidM:=(if 1<id.seq.toNat then [⟨id.author,id.seq - 1⟩] else [])++ops.flatMap fun o=>((refsM o).filter fun v=>v.pid≠id).map (·.pid)
def depsM(id:PidM)(ops:List OpM):List PidM:=setS packPid (depsOf id ops)
def ownB(p:PatchM)(v:VidM)(k:UInt8):Bool:=decide (v.pid≠p.id) || (match p.ops[v.n.toNat]? with|some o=>o.kind == k|none=>false)
def laterB(id:PidM)(o:OpM):Bool:=(refsM o).any fun v=>decide (v.pid.author=id.author) && decide (id.seq.toNat<v.pid.seq.toNat)
def atOf(p:PatchM)(v:VidM):Option VidM:=(p.ops[v.n.toNat]?).map (·.at')
def kindsB(p:PatchM)(o:OpM):Bool:=
 if o.kind=2∨o.kind=3 then ownB p o.at' 1
 else if o.kind=4 then ownB p o.at' 3 && (ownB p o.to 3 && (decide (o.at'.pid≠p.id) || (decide (o.to.pid≠p.id) || decide (atOf p o.at'=atOf p o.to))))
 else true
def oneB(p:PatchM)(i:Nat)(o:OpM):Bool:=opGood p.id i o && (!laterB p.id o && (!(decide (4≤o.kind.toNat) && decide (o∈p.ops.take i)) && kindsB p o))
def allB(p:PatchM):Bool:=(List.range p.ops.length).all fun i=>match p.ops[i]? with|some o=>oneB p i o|none=>false
def goodP(p:PatchM):Bool:=goodPid p.id && (decide (1≤p.ops.length) && (decide (p.ops.length≤200) && (decide (p.deps=depsM p.id p.ops) && allB p)))
abbrev VecM:Type:=UInt8→Nat
def authorOk(a:UInt8):Bool:=decide (1≤a.toNat) && decide (a.toNat≤64)
def vecM(L:List PatchM)(a:UInt8):Nat:=(L.filter fun p=>p.id.author=a).length
def hasM(L:List PatchM)(p:PidM):Bool:=L.any fun q=>decide (q.id=p)
def deadM(L:List PatchM)(v:VidM):Bool:=L.any fun p=>p.ops.any fun o=>decide (o.kind=5) && decide (o.at'=v)
def madeBy(p:PatchM)(v:VidM):Option OpM:=if p.id=v.pid then(p.ops[v.n.toNat]?).filter fun o=>makesB o.kind else none
def vertOp(L:List PatchM)(v:VidM):Option OpM:=L.findSome? fun p=>madeBy p v
def fileOf(v:VidM)(o:OpM):VidM:=if o.kind=1 then v else o.at'
def vertM(L:List PatchM)(v:VidM):Option VertM:=(vertOp L v).map fun o=>⟨v,o.kind,fileOf v o,o.text,deadM L v⟩
def isKind(L:List PatchM)(v:VidM)(k:UInt8):Bool:=match vertM L v with|some x=>x.kind == k|none=>false
def refMet(L:List PatchM)(o:OpM):Bool:=
 if o.kind=1 then true
 else if o.kind=2∨o.kind=3 then isKind L o.at' 1
 else if o.kind=4 then isKind L o.at' 3 && (isKind L o.to 3 && decide ((vertM L o.at').map (·.file)=(vertM L o.to).map (·.file)))
 else(vertM L o.at').isSome
def nextM(L:List PatchM)(a:UInt8):PidM:=if authorOk a=true∧vecM L a<60000 then⟨a,UInt16.ofNat (vecM L a+1)⟩ else noPid
def checkM(L:List PatchM)(p:PatchM):Nat:=
 if goodP p=false then 1 else if hasM L p.id=true then 7 else if ¬ nextM L p.id.author=p.id then 9
 else if(p.deps.all fun d=>hasM L d)=false then 9 else if(p.ops.all fun o=>refMet (L++[p]) o)=false then 10 else 0
end Go.Proofs.YtjccmcgglfncdaaGreatDoor
