/- The lines of a file, plain: its steps lie among its lines; what makes a file have just some lines. -/
import Derived.Test.YtllcipobiengiaaGreatXGrR
import Derived.Test.YtllcipobiengiaaGreatXRelP
set_option linter.unusedVariables false
set_option linter.unusedSimpArgs false
namespace Go.Proofs.YtllcipobiengiaaGreat

/-- where a line stands -/
def placeM(l:List VertM)(v:VidM):Nat:=(l.map (·.id)).idxOf v
theorem place_get{l:List VertM}{v:VidM}(h:v∈l.map (·.id)):∃ x,l[placeM l v]? = some x∧x.id=v:=by
 have hlt:placeM l v<(l.map (·.id)).length:=List.idxOf_lt_length_of_mem h
 have h1:(l.map (·.id))[placeM l v]? = some v:=by
  rw [List.getElem?_eq_getElem hlt]
  exact congrArg some (List.getElem_idxOf hlt)
 rw [List.getElem?_map] at h1
 cases hx:l[placeM l v]? with
 | none=>rw [hx] at h1;cases h1
 | some x=>rw [hx] at h1;exact⟨x,rfl,Option.some.inj h1⟩
theorem place_lt{l:List VertM}{v:VidM}(h:v∈l.map (·.id)):placeM l v<l.length:=by
 obtain⟨x,hx,_⟩:=place_get h
 exact(List.getElem?_eq_some_iff.1 hx).1
/-- a rising list's own place -/
theorem place_at{l:List VertM}(hn:(l.map (·.id)).Nodup){k:Nat}{x:VertM}(hx:l[k]? = some x):placeM l x.id=k:=by
 have h1:x.id∈l.map (·.id):=List.mem_map.2 ⟨x,List.mem_of_getElem? hx,rfl⟩
 obtain⟨y,hy,hyx⟩:=place_get h1
 have h2:(l.map (·.id))[placeM l x.id]? = some x.id:=by rw [List.getElem?_map,hy];exact congrArg some hyx
 have h3:(l.map (·.id))[k]? = some x.id:=by rw [List.getElem?_map,hx];rfl
 exact(List.getElem?_inj (List.getElem?_eq_some_iff.1 h2).1 hn).1 (h2.trans h3.symm)
def linesM(L:List PatchM)(file:VidM):List VertM:=ofM L file 3
def relM(L:List PatchM)(file:VidM):List (Nat × Nat):=(stepsM L file).map fun e=>(placeM (linesM L file) e.1,placeM (linesM L file) e.2)
theorem step_ends{L:List PatchM}(hw:WfG L)(hl:∀ p∈L,p.ops.length≤200){file:VidM}{e:EdgeM}(he:e∈stepsM L file):e.1∈(linesM L file).map (·.id)∧e.2∈(linesM L file).map (·.id):=by
 unfold stepsM at he
 obtain⟨he1,he2⟩:=List.mem_filter.1 he
 simp only [decide_eq_true_eq] at he2
 rw [mem_edgesM] at he1
 unfold hasE at he1
 obtain⟨p,hp,h2⟩:=List.any_eq_true.1 he1
 obtain⟨o,ho,h3⟩:=List.any_eq_true.1 h2
 simp only [Bool.and_eq_true,decide_eq_true_eq] at h3
 obtain⟨h4,h5,h6⟩:=h3
 have hk:=hw.kinds p hp o ho
 unfold refMet at hk
 rw [if_neg (by rw [h4];decide),if_neg (by rw [h4];decide),if_pos h4,h5,h6] at hk
 simp only [Bool.and_eq_true,decide_eq_true_eq] at hk
 obtain⟨k1,k2,k3⟩:=hk
 have key:∀ v,isKind L v 3=true→fileAt L v=file→v∈(linesM L file).map (·.id):=by
  intro v hv hf
  unfold isKind at hv
  cases hx:vertM L v with
  | none=>rw [hx] at hv;cases hv
  | some x =>
   rw [hx] at hv
   have hk3:x.kind=3:=by simpa using hv
   have hfx:x.file=file:=by unfold fileAt at hf;rw [hx] at hf;exact hf
   have hid:=vertM_id hx
   refine List.mem_map.2 ⟨x,?_,hid⟩
   unfold linesM ofM vertsM
   refine List.mem_filter.2 ⟨List.mem_map.2 ⟨v,?_,by rw [hx];rfl⟩,by simp [hk3,hfx]⟩
   rw [mem_idsM hl,hx];rfl
 refine⟨key _ k1 he2,key _ k2 ?_⟩
 have h7:fileAt L e.1=fileAt L e.2:=by unfold fileAt;rw [k3]
 rw [← h7];exact he2
theorem relM_lt{L:List PatchM}(hw:WfG L)(hl:∀ p∈L,p.ops.length≤200)(file:VidM):∀ s∈relM L file,s.1<(linesM L file).length∧s.2<(linesM L file).length:=by
 intro s hs
 unfold relM at hs
 obtain⟨e,he,rfl⟩:=List.mem_map.1 hs
 obtain⟨h1,h2⟩:=step_ends hw hl he
 exact⟨place_lt h1,place_lt h2⟩
/-! ### the sheet -/
def deadLine(l:List VertM)(i:Nat):Bool:=match l[i]? with|some x=>x.dead|none=>true
def FirmP(R:List (Nat × Nat))(n i:Nat):Prop:=i<n∧∀ j,j<n→j≠i→¬ AlikeP R i j
/-! ### what makes a file have just some lines -/
def keptTo(firm:List Nat)(ps:List (Nat × Nat))(m:Nat):List Int:=ps.foldl (fun out x=>out.set x.2 ((firm.getD x.1 0:Nat):Int)) (List.replicate m (-1))
def killsE(l:List VertM)(alive:List Nat)(kept:List Int):List OpM:=(alive.filter fun(i:Nat) => !kept.contains (Int.ofNat i)).map fun i=>⟨5,(l.getD i noVert).id,noVid,⟨#[]⟩⟩
/-- one text: the line that is kept, or a new one -/
def stepA(l:List VertM)(file:VidM)(id:PidM)(from':Nat)(s:List OpM × List VidM)(x:Int × ByteArray):List OpM × List VidM:=
 if 0≤x.1 then(s.1,s.2++[(l.getD x.1.toNat noVert).id]) else(s.1++[⟨3,file,noVid,x.2⟩],s.2++[⟨id,UInt8.ofNat (from'+s.1.length)⟩])
def addsTo(l:List VertM)(file:VidM)(id:PidM)(from':Nat)(kept:List Int)(want:List ByteArray)(ks:List OpM)(j:Nat):List OpM × List VidM:=((kept.zip want).take j).foldl (stepA l file id from') (ks,[])
open Classical in
noncomputable def edgesE(R:List (Nat × Nat))(kept:List Int)(at':List VidM)(j:Nat):List OpM:=
 if 0<j∧(kept.getD (j - 1) 0<0∨kept.getD j 0<0∨¬ BeforeP R (kept.getD (j - 1) 0).toNat (kept.getD j 0).toNat) then [⟨4,at'.getD (j - 1) noVid,at'.getD j noVid,⟨#[]⟩⟩] else []
noncomputable def editM(l:List VertM)(R:List (Nat × Nat))(alive firm:List Nat)(file:VidM)(id:PidM)(from':Nat)(want:List ByteArray)(ps:List (Nat × Nat)):List OpM:=
 let kept:=keptTo firm ps want.length
 let s:=addsTo l file id from' kept want (killsE l alive kept) want.length
 s.1++(List.range want.length).flatMap (edgesE R kept s.2)
end Go.Proofs.YtllcipobiengiaaGreat
