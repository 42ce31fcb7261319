/- Contracts of bruitref10.Set and bruitref11.Set. Contract of bruitref10.Same. Contract of bruitref18.Deps. Worlds that came by draws and new blocks alone; the library's sort in words of rows. -/
import Derived.Test.YtanfebljiblhbaaGreatDoorHGRow
import Derived.Shelf.SlSortCmp.NoneTotal
set_option linter.unusedVariables false
set_option linter.unusedSimpArgs false
namespace Go.Proofs.YtanfebljiblhbaaGreatDoor
open Go Go.RowKit

section
variable {α : Type} {key : α → Nat}
end
attribute [local irreducible] packPid packVid cmpN putS
end Go.Proofs.YtanfebljiblhbaaGreatDoor
namespace Go.Proofs.YtanfebljiblhbaaGreatDoor
open Go Go.RowKit

theorem take_all{α:Type}{l m:List α}(hl:l.length=m.length)(h:l.take l.length=m.take l.length):l=m:=by
 rw [List.take_length,hl,List.take_length] at h;exact h
theorem take_ne{α:Type}{l m:List α}{k:Nat}{x y:α}(hx:l[k]? = some x)(hy:m[k]? = some y)(h:¬ x=y):¬ l=m:=by
 rintro rfl
 rw [hx] at hy
 exact h (Option.some.inj hy)

end Go.Proofs.YtanfebljiblhbaaGreatDoor
namespace Go.Proofs.YtanfebljiblhbaaGreatDoor
open Go Go.RowKit

def farPids(id:PidM)(vs:List VidM):List PidM:=(vs.filter fun v=>v.pid≠id).map (·.pid)
theorem farPids_yes{id:PidM}{vs:List VidM}{k:Nat}{v:VidM}(h:vs[k]? = some v)(hv:¬ v.pid=id):farPids id (vs.take (k+1))=farPids id (vs.take k)++[v.pid]:=by
 unfold farPids;rw [take_succ_get h,List.filter_append,List.map_append];simp [hv]
theorem farPids_no{id:PidM}{vs:List VidM}{k:Nat}{v:VidM}(h:vs[k]? = some v)(hv:v.pid=id):farPids id (vs.take (k+1))=farPids id (vs.take k):=by
 unfold farPids;rw [take_succ_get h,List.filter_append,List.map_append];simp [hv]
theorem farPids_len(id:PidM)(vs:List VidM):(farPids id vs).length≤vs.length:=by
 unfold farPids;rw [List.length_map];exact List.length_filter_le _ _
def preDep(id:PidM):List PidM:=if 1<id.seq.toNat then [⟨id.author,id.seq - 1⟩] else []
def depsTo(id:PidM)(ops:List OpM):List PidM:=preDep id++ops.flatMap fun o=>farPids id (refsM o)
theorem depsTo_all(id:PidM)(ops:List OpM):setS packPid (depsTo id ops)=depsM id ops:=rfl
theorem depsTo_succ{id:PidM}{ops:List OpM}{i:Nat}{o:OpM}(h:ops[i]? = some o):depsTo id (ops.take (i+1))=depsTo id (ops.take i)++farPids id (refsM o):=by
 unfold depsTo;rw [take_succ_get h,List.flatMap_append];simp
theorem preDep_len(id:PidM):(preDep id).length≤1:=by unfold preDep;split <;> simp
theorem far_len(id:PidM):∀ ops:List OpM,(ops.flatMap fun o=>farPids id (refsM o)).length≤2*ops.length
 | []=>by simp
 | o :: ops=>by
  have h2:=farPids_len id (refsM o)
  have h3:=refs_len o
  have h4:=far_len id ops
  rw [List.flatMap_cons,List.length_append,List.length_cons];omega
theorem depsTo_len(id:PidM):∀ ops:List OpM,(depsTo id ops).length≤1+2*ops.length:=by
 intro ops
 have h1:=preDep_len id
 have h2:=far_len id ops
 unfold depsTo
 rw [List.length_append];omega
theorem sub_seq{s:UInt16}(h:1<s.toNat):((s - 1).toNat:Int)=(s.toNat:Int) - 1:=by
 have:(s - 1).toNat=s.toNat - 1:=by
  rw [UInt16.toNat_sub_of_le]
  ·
   rfl
  ·
   rw [UInt16.le_iff_toNat_le];show 1≤_;omega
 rw [this];omega
theorem refs_at{w:World}{a:Option Addr}{n c:Nat}{vs:List VidM}(h:RefsAt w (.slice a n c) vs)(hp:0<vs.length):∃ g,a=some ⟨g,0,none⟩∧ArrT w g 27 (vs.flatMap encVid):=by
 rcases h with⟨rfl,_⟩|⟨_,_,g,e,hA⟩
 ·
  simp at hp
 ·
  cases e;exact⟨g,rfl,hA⟩
theorem RefsAt.over{w w':World}{v:Value}{vs:List VidM}(h:RefsAt w v vs)(hb:Below w.heap.size w w'):RefsAt w' v vs:=by
 rcases h with h|⟨h1,h2,g,e,hA⟩
 ·
  exact .inl h
 ·
  exact .inr ⟨h1,h2,g,e,hA.over hb⟩
theorem RefsAt.grown{w w':World}{B sz n:Nat}{e:TypeId}{v u:Value}{xs:List Value}{vs:List VidM}(h:RefsAt w v vs)(ho:w.ownsRow B e sz u n xs)(hn:e≠27)(hg:w.grownBy w' u.ownBlock):RefsAt w' v vs:=by
 rcases h with h|⟨h1,h2,g,e,hA⟩
 ·
  exact .inl h
 ·
  exact .inr ⟨h1,h2,g,e,hA.grown ho hn hg⟩
def DpOut(w0:World)(id:PidM)(ops:List OpM)(v5 v6:Value)(wr:World):Prop:=
 ∃ i:Nat,i≤ops.length∧v6=.int .i64 i∧Hid (GOwn encPid 2 25 wr w0.heap.size v5 (depsTo id (ops.take i)))∧Below w0.heap.size w0 wr
def DpIn(w0:World)(id:PidM)(A:List PidM)(vs:List VidM)(vr:Value)(v5 v8:Value)(wr:World):Prop:=
 ∃ k:Nat,k≤vs.length∧v8=.int .i64 k∧Hid (GOwn encPid 2 25 wr w0.heap.size v5 (A++farPids id (vs.take k)))∧Hid (RefsAt wr vr vs)∧Below w0.heap.size w0 wr
theorem preDep_yes{id:PidM}(h:1<id.seq.toNat):preDep id=[⟨id.author,id.seq - 1⟩]:=by unfold preDep;rw [if_pos h]
theorem preDep_no{id:PidM}(h:¬ 1<id.seq.toNat):preDep id=[]:=by unfold preDep;rw [if_neg h]
theorem depsTo_nil(id:PidM):depsTo id []=preDep id:=by unfold depsTo;simp
theorem farPids_nil(id:PidM):farPids id []=[]:=rfl
attribute [local irreducible] refsM farPids preDep depsTo depsM
end Go.Proofs.YtanfebljiblhbaaGreatDoor
namespace Go.Proofs.YtanfebljiblhbaaGreatDoor
open Go Go.RowKit

/-- draws and new blocks -/
def Grew(w w':World):Prop:=∃ q os,w'=Go.Sort.grow (w.drewN q) os
theorem Grew.refl(w:World):Grew w w:=⟨0,#[],by simp [drewN_zero]⟩
theorem Grew.trans{w w1 w2:World}(h:Grew w w1)(h':Grew w1 w2):Grew w w2:=by
 obtain⟨q,os,rfl⟩:=h
 obtain⟨q',os',rfl⟩:=h'
 refine⟨q+q',os++os',?_⟩
 have:(Go.Sort.grow (w.drewN q) os).drewN q'=Go.Sort.grow (w.drewN (q+q')) os:=by
  simp [Go.Sort.grow,World.drewN,Nat.add_assoc]
 rw [this,Go.Sort.grow_grow]
theorem Grew.alloc{w w1:World}(h:Grew w w1)(o:Obj):Grew w (w1.alloc o):=h.trans ⟨0,#[o],by rw [drewN_zero,Go.Sort.alloc_eq_grow]⟩
theorem Grew.drew{w w1:World}(h:Grew w w1):Grew w w1.drew:=h.trans ⟨1,#[],by rw [Go.Sort.grow_empty];rfl⟩
theorem Grew.drewN{w w1:World}(h:Grew w w1)(n:Nat):Grew w (w1.drewN n):=h.trans ⟨n,#[],by rw [Go.Sort.grow_empty]⟩
theorem Grew.below{w w1:World}(h:Grew w w1):Below w.heap.size w w1:=by
 obtain⟨q,os,rfl⟩:=h
 exact⟨rfl,rfl,rfl,by simp,fun k hk=>by rw [Go.Sort.heap_grow_old _ _ (by simpa using hk)];rfl⟩
def GrewT(w:World):Type:={w':World // Grew w w'}
instance (w:World):Nonempty (GrewT w):=⟨⟨w,Grew.refl _⟩⟩
def IsGrew(w:World):World→Prop:=fun w'=>∃ x:GrewT w,w'=x.1
theorem isGrew_of{w w':World}(h:Grew w w'):IsGrew w w':=⟨⟨w',h⟩,rfl⟩
@[go_sem] theorem isGrew_all {w:World} {p:World→Prop}:(∀ w',IsGrew w w'→p w')↔∀ x:GrewT w,p x.1:=⟨fun h x=>h _ ⟨x,rfl⟩,fun h w' ⟨x,hx⟩=>hx▸h x⟩
@[simp,go_sem] theorem grew_cell {w:World} (x:GrewT w) {a:Addr} (h:a.block<w.heap.size):World.cell? x.1 a=w.cell? a:=x.2.below.cell h
@[simp,go_sem] theorem grew_frozen {w:World} (x:GrewT w) {a:Addr} (h:a.block<w.heap.size):World.frozen? x.1 a=w.frozen? a:=x.2.below.frozen h

/-! ### rows as the sort sees them -/
section
variable {α : Type} [Inhabited α] {enc : α → List Value} {k : Nat}
theorem flatK_list(hk:∀ x,(enc x).length=k)(xs:List α):(Go.Sort.flatK enc k xs.toArray).toList=xs.flatMap enc:=by
 apply List.ext_getElem?
 intro t
 rw [Array.getElem?_toList]
 by_cases ht:t<xs.length*k
 ·
  have k0:0<k:=by
    rcases Nat.eq_zero_or_pos k with h|h;· subst h;simp at ht
    ·
     exact h
  have hq:t / k<xs.length:=(Nat.div_lt_iff_lt_mul k0).2 ht
  have hr:t % k<k:=Nat.mod_lt _ k0
  have h1:=flat_get hk xs (t / k) (t % k) xs[t / k] (List.getElem?_eq_getElem hq) hr
  rw [show t / k*k+t % k=t by rw [Nat.mul_comm];exact Nat.div_add_mod t k] at h1
  rw [h1]
  have h2:=Go.Sort.get_flatK enc k xs.toArray t (by simpa using ht)
  rw [Array.getElem?_eq_getElem (by simpa using ht)]
  rw [getElem!_pos _ t (by simpa using ht)] at h2
  rw [h2]
  have h3:xs.toArray[t / k]! = xs[t / k]:=by rw [getElem!_pos _ _ (by simpa using hq)];simp
  rw [h3,getElem!_pos _ _ (by rw [hk];exact hr),List.getElem?_eq_getElem (by rw [hk];exact hr)]
 ·
  rw [Array.getElem?_eq_none (by simpa using ht),List.getElem?_eq_none (by rw [flat_len hk];omega)]
theorem flatK_toArray(hk:∀ x,(enc x).length=k)(d:Array α):Go.Sort.flatK enc k d=(d.toList.flatMap enc).toArray:=by
 rw [← flatK_list hk d.toList]
theorem putCells_row(xs ys junk:List Value)(h:xs.length=ys.length):Go.Sort.putCells id 0 ys.toArray (xs++junk).toArray=(ys++junk).toArray:=by
 apply Array.ext_getElem?
 intro t
 unfold Go.Sort.putCells
 rw [Array.getElem?_mapIdx]
 by_cases h1:t<ys.length
 ·
  rw [List.getElem?_toArray,List.getElem?_append_left (by omega),List.getElem?_toArray,List.getElem?_append_left h1,List.getElem?_eq_getElem (by omega),List.getElem?_eq_getElem h1]
  simp [h1]
 ·
  rw [List.getElem?_toArray,List.getElem?_append_right (by omega),List.getElem?_toArray,List.getElem?_append_right (by omega),h]
  simp [h1]
theorem OwnAt.holdsK(hk:∀ x,(enc x).length=k){w:World}{B g cap:Nat}{e:TypeId}{xs:List α}(h:OwnAt w B e k g xs.length cap (xs.flatMap enc)):Go.Sort.HoldsK enc k w g 0 xs.toArray:=by
 intro j hj
 rw [Nat.zero_add]
 refine⟨?_,h.free j⟩
 rw [flatK_toArray hk] at hj ⊢
 refine h.cell ?_
 have hj':j<(xs.flatMap enc).length:=by simpa using hj
 rw [List.getElem?_eq_getElem hj']
 congr 1
 have:=getElem!_pos (List.flatMap enc xs.toArray.toList).toArray j hj
 rw [id,this];simp
theorem OwnAt.sorted(hk:∀ x,(enc x).length=k){w:World}{B g cap:Nat}{e:TypeId}{xs:List α}(h:OwnAt w B e k g xs.length cap (xs.flatMap enc))(n:Nat)(d':Array α)(hd:d'.size=xs.length)(os:Array Obj) :
  OwnAt (Go.Proofs.sortWorldK enc k w g 0 n d' os) B e k g xs.length cap (d'.toList.flatMap enc)∧w.grownBy (Go.Proofs.sortWorldK enc k w g 0 n d' os) (some g):=by
 have hlt:=h.lt
 obtain⟨junk,h1,h2⟩:=h.at'
 have hl:(xs.flatMap enc).length=(d'.toList.flatMap enc).length:=by rw [flat_len hk,flat_len hk];simp [hd]
 have hheap:(Go.Sort.putRowK enc k (Go.Sort.ahead w n) g 0 d').heap[g]? = some (.cells (d'.toList.flatMap enc++junk).toArray e (0,0)):=by
  unfold Go.Sort.putRowK Go.Sort.putRow Go.Sort.mapBlock
  rw [flatK_toArray hk]
  simp only [Array.getElem?_modify,if_pos]
  have:(Go.Sort.ahead w n).heap=w.heap:=rfl
  rw [this,h1]
  simp only [Option.map_some,Go.Sort.onCells]
  rw [putCells_row _ _ _ hl]
 refine⟨⟨⟨junk,?_,?_⟩,by rw [← hl];exact h.len,h.base,h.nc,h.cm⟩,?_⟩
 ·
  unfold Go.Proofs.sortWorldK
  rw [Go.Sort.heap_grow_old _ _ (by simp [Go.Sort.putRowK,Go.Sort.putRow,Go.Sort.mapBlock];exact hlt)]
  exact hheap
 ·
  rw [List.length_append,← hl,← List.length_append];exact h2
 ·
  refine⟨rfl,rfl,rfl,by simp [Go.Proofs.sortWorldK,Go.Sort.putRowK,Go.Sort.putRow,Go.Sort.mapBlock,Go.Sort.ahead],fun i hi hne => ?_⟩
  unfold Go.Proofs.sortWorldK
  rw [Go.Sort.heap_grow_old _ _ (by simp [Go.Sort.putRowK,Go.Sort.putRow,Go.Sort.mapBlock];exact hi)]
  unfold Go.Sort.putRowK Go.Sort.putRow Go.Sort.mapBlock
  simp only [Array.getElem?_modify]
  rw [if_neg (fun e=>hne (by rw [e]))]
  rfl

def SortRes(cf:α→α→Int)(enc:α→List Value)(k:Nat)(e:TypeId)(w:World)(B g cap:Nat)(xs:List α)(r:Ending)(w':World):Prop:=
 r=.returned (.tuple #[])∧∃ ys:List α,ys.Perm xs∧(ys.Pairwise fun a b=>¬ cf b a<0)∧OwnAt w' B e k g xs.length cap (ys.flatMap enc)∧w.grownBy w' (some g)
/-- what the library says of a sort, in words of rows -/
theorem sortRes_of{P:Program}(hk:∀ x,(enc x).length=k){cf:α→α→Int}{w:World}{B g cap:Nat}{e:TypeId}{xs:List α}(h:OwnAt w B e k g xs.length cap (xs.flatMap enc)){f:Nat}{args:Array Value}
  (hc:Calls P f args w fun r w'=>r=.returned (.tuple #[])∧∃ d' n os,Go.Sort.PermIn 0 xs.toArray.size xs.toArray d'∧Go.Sort.SortedIn (Go.Proofs.ltOf cf) 0 xs.toArray.size d'∧w'=Go.Proofs.sortWorldK enc k w g 0 n d' os):Calls P f args w (SortRes cf enc k e w B g cap xs):=by
 rw [List.size_toArray] at hc
 refine hc.mono fun r w' ⟨he,d',n,os,hp,hs,hw⟩=>⟨he,d'.toList,?_,?_,?_⟩
 ·
  obtain⟨p1,_,p3⟩:=hp
  have hsz:d'.size=xs.length:=by simpa using p1
  have e1:(xs.toArray.extract 0 xs.toArray.size).toList=xs:=by simp
  have e2:(d'.extract 0 xs.toArray.size).toList=d'.toList:=by simp [← hsz]
  simp only [List.size_toArray] at p3 e1 e2
  rw [e1,e2] at p3
  exact p3
 ·
  rw [List.pairwise_iff_getElem]
  intro i j hi hj hij
  have hsz:d'.size=xs.length:=by simpa using hp.1
  have:=hs i j (Nat.zero_le _) hij (by simp at hj;omega)
  unfold Go.Proofs.ltOf at this
  rw [getElem!_pos d' j (by simpa using hj),getElem!_pos d' i (by simpa using hi)] at this
  simpa using this
 ·
  obtain⟨a,b⟩:=h.sorted hk n d' (by simpa using hp.1) os
  rw [hw];exact⟨a,b⟩
/-- slices.SortFunc at structs -/
theorem sortF_any{P:Program}{ρ:Go.Shelf.Ren}(L:Go.Proofs.SlLaysF0.n6 P ρ)(aE:∀ w,(isAgg (ρ.t 24)).run P w=.ok true w)(zE:∀ w,(Go.sizeOf (ρ.t 24)).run P w=.ok k w)(hk:∀ x,(enc x).length=k)(h1:∀ x,∀ v∈enc x,v.oneCell'=true)
  (cf:α→α→Int) (hO:Go.Sort.SWO (Go.Proofs.ltOf cf)) (fn:Nat) (eg:∀ args w,(callFunc fn args).run P w=.ok (.enter fn args) w)
  (hcmp:∀ x y W,Calls P fn #[.agg (enc x).toArray,.agg (enc y).toArray] W fun e w'=>e=.returned (.int .i64 (cf x y))∧Grew W w')
  {w:World} {B g cap:Nat} {e:TypeId} {xs:List α} (h:OwnAt w B e k g xs.length cap (xs.flatMap enc)) (hn:xs.length<4611686018427387904) :
  Calls P (ρ.f 6) #[.slice (some ⟨g,0,none⟩) xs.length cap,.func (.func fn) #[] #[]] w (SortRes cf enc k e w B g cap xs):=by
 have hc:=AnyQ.slices_SortFunc L k aE zE enc hk h1 cf hO fn #[] g 0 cap xs.toArray w eg (fun m os dk _ x y=>(hcmp x y _).mono fun _ _ ⟨he,q,os',hw⟩=>⟨he,q,os',hw⟩) (h.holdsK hk) h.lt (by simpa using hn)
 exact sortRes_of hk h hc
/-- .. of nothing -/
theorem sortF_none{P:Program}{ρ:Go.Shelf.Ren}(L:Go.Proofs.SlLaysF0.n6 P ρ)(p:Option Addr)(cap:Nat)(fv:Value)(w:World):Calls P (ρ.f 6) #[.slice p 0 cap,fv] w fun e w'=>e=.returned (.tuple #[])∧w'=w:=
 AnyF.slices_SortFunc_none L p cap fv w
/-- a comparison of numbers is a strict weak order -/
theorem swo_key{α:Type}(key:α→Nat)(cf:α→α→Int)(h:∀ x y,(cf x y<0)=(key x<key y)):Go.Sort.SWO (Go.Proofs.ltOf cf) where
 irrefl x:=by unfold Go.Proofs.ltOf;simp [h]
 trans x y z h1 h2:=by unfold Go.Proofs.ltOf at *;simp [h] at *;omega
 ntrans x y z h1 h2:=by unfold Go.Proofs.ltOf at *;simp [h] at *;omega
end
end Go.Proofs.YtanfebljiblhbaaGreatDoor
