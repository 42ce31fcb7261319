/- What is proved: PlanSays, for every input; of the listed tables the walk needs the powers of ten. -/
import Derived.Test.YtjccmcgglfncdaaGreatDoorPGrQ
import Derived.Test.YtjccmcgglfncdaaGreatDoorPMap
import Derived.Test.YtjccmcgglfncdaaGreatDoorPRelP
set_option linter.unusedVariables false
set_option linter.unusedSimpArgs false
namespace Go.Proofs.YtjccmcgglfncdaaGreatDoor
open Go Go.RowKit
variable{L:List PatchM}{i:Nat}{v:VidM}
def partP(p:PatchM)(k:Nat):PatchM:=⟨p.id,p.deps,p.ops.take k⟩
theorem part_all(p:PatchM):partP p p.ops.length=p:=by unfold partP;rw [List.take_length]
theorem makes_iff(k:UInt8):makesB k=true↔k=1∨k=2∨k=3:=by unfold makesB;simp
theorem take_succ'{α:Type}{xs:List α}{x:α}(h:xs[i]? = some x):xs.take (i+1)=xs.take i++[x]:=by rw [List.take_add_one,h];rfl
theorem any_take{p:PatchM}{o:OpM}(h:p.ops[i]? = some o)(f:OpM→Bool):(partP p (i+1)).ops.any f=((partP p i).ops.any f || f o):=by unfold partP;rw [take_succ' h];simp
theorem ofNat_n(h:i<256):(UInt8.ofNat i).toNat=i:=by simp;omega
section
variable {L : List PatchM} {p : PatchM} {i : Nat} {o : OpM}
theorem part_look(hn:hasM L p.id=false)(k:Nat)(v:VidM):vertOp (L++[partP p k]) v=if v.pid=p.id then madeBy (partP p k) v else vertOp L v:=look_op (p:=partP p k) hn v
theorem madeBy_part(k:Nat)(hv:v.pid=p.id):madeBy (partP p k) v=((p.ops.take k)[v.n.toNat]?).filter fun o=>makesB o.kind:=by unfold madeBy partP;rw [if_pos hv.symm]
theorem madeBy_step(ho:p.ops[i]? = some o)(hv:v.pid=p.id):madeBy (partP p (i+1)) v=if v.n.toNat=i then(if makesB o.kind=true then some o else none) else madeBy (partP p i) v:=by
 have hil:=(List.getElem?_eq_some_iff.1 ho).1;rw [madeBy_part _ hv,madeBy_part _ hv,take_succ' ho]
 by_cases h:v.n.toNat=i
 · rw [if_pos h,h,List.getElem?_append_right (by rw [List.length_take];omega),List.length_take,Nat.min_eq_left (by omega)];simp [Option.filter]
 rw [if_neg h]
 by_cases h2:v.n.toNat<i
 · rw [List.getElem?_append_left (by rw [List.length_take];omega)]
 have e1:(p.ops.take i++[o])[v.n.toNat]? = none:=by rw [List.getElem?_eq_none_iff];simp;omega
 have e2:(p.ops.take i)[v.n.toNat]? = none:=by rw [List.getElem?_eq_none_iff];simp;omega
 rw [e1,e2]
theorem own_alive(hw:WfG L)(hc:CheckOk L p){k:Nat}(hv:v.pid=p.id):deadM (L++[partP p k]) v=false:=by
 cases h:deadM (L++[partP p k]) v with
 | false=>rfl
 | true =>
  exfalso;rw [deadM_snoc,Bool.or_eq_true] at h;rcases h with h|h
  · obtain⟨q,hq,h⟩:=List.any_eq_true.1 h;obtain⟨o,ho,h⟩:=List.any_eq_true.1 h;simp at h;have:=hw.refs q hq o ho v (by rw [← h.2];exact refs_at_mem (by simp [h.1]));rw [hv,hc.new] at this;cases this
  ·
   obtain⟨o,ho,h⟩:=List.any_eq_true.1 h;simp at h;rcases kind_of hc.good (List.mem_of_mem_take ho) with h1|h1|h1|h1|⟨_,h1⟩
   iterate 4 (rw [h.1] at h1;exact absurd h1 (by decide))
   exact h1 (by rw [h.2];exact hv)
def madeV(p:PatchM)(i:Nat)(o:OpM):VertM:=⟨⟨p.id,UInt8.ofNat i⟩,o.kind,fileOf ⟨p.id,UInt8.ofNat i⟩ o,o.text,false⟩
theorem dead_step(ho:p.ops[i]? = some o)(v:VidM):deadM (L++[partP p (i+1)]) v=(deadM (L++[partP p i]) v || (decide (o.kind=5) && decide (o.at'=v))):=by rw [deadM_snoc,deadM_snoc,any_take ho,Bool.or_assoc]
theorem vert_zero:vertM (L++[partP p 0])=vertM L:=by
 funext v;unfold vertM;rw [vertOp_snoc,deadM_snoc];have:madeBy (partP p 0) v=none:=by unfold madeBy partP;simp
 rw [this];simp [partP]
theorem vert_makes(hw:WfG L)(hc:CheckOk L p)(hi:i<256)(ho:p.ops[i]? = some o)(hm:makesB o.kind=true):vertM (L++[partP p (i+1)])=updM (vertM (L++[partP p i])) ⟨p.id,UInt8.ofNat i⟩ (madeV p i o):=by
 funext v;have h5:¬ o.kind=5:=by rcases (makes_iff _).1 hm with h|h|h <;> rw [h] <;> decide
 unfold updM vertM
 by_cases hv:v=⟨p.id,UInt8.ofNat i⟩
 · subst hv;rw [if_pos rfl,part_look hc.new,if_pos rfl,madeBy_step ho rfl,if_pos (ofNat_n hi),if_pos hm];rw [own_alive hw hc rfl];rfl
 rw [if_neg hv,part_look hc.new,part_look hc.new,dead_step ho];have:(decide (o.kind=5) && decide (o.at'=v))=false:=by simp [h5]
 rw [this,Bool.or_false]
 by_cases hp:v.pid=p.id
 ·
  rw [if_pos hp,if_pos hp,madeBy_step ho hp,if_neg];intro e;apply hv;cases v
  simp only at hp e;subst hp;congr 1;exact UInt8.toNat_inj.1 (by rw [e,ofNat_n hi])
 rw [if_neg hp,if_neg hp]
theorem vert_still(hc:CheckOk L p)(ho:p.ops[i]? = some o)(hm:makesB o.kind=false)(v:VidM):vertOp (L++[partP p (i+1)]) v=vertOp (L++[partP p i]) v:=by
 rw [part_look hc.new,part_look hc.new]
 by_cases hp:v.pid=p.id
 ·
  rw [if_pos hp,if_pos hp,madeBy_step ho hp];split
  · rename_i e;have hil:=(List.getElem?_eq_some_iff.1 ho).1;rw [hm,madeBy_part _ hp];have:(p.ops.take i)[v.n.toNat]? = none:=(by rw [List.getElem?_eq_none_iff];simp;omega);rw [this];rfl
  rfl
 rw [if_neg hp,if_neg hp]
theorem vert_edge(hc:CheckOk L p)(ho:p.ops[i]? = some o)(h4:o.kind=4):vertM (L++[partP p (i+1)])=vertM (L++[partP p i]):=by
 funext v;unfold vertM;rw [vert_still hc ho (by rw [h4];decide),dead_step ho];have:(decide (o.kind=5) && decide (o.at'=v))=false:=by simp [h4]
 rw [this,Bool.or_false]
def killV(x:VertM):VertM:={x with dead:=true}
theorem kill_there(hc:CheckOk L p)(ho:p.ops[i]? = some o)(h5:o.kind=5):∃ x,vertM (L++[partP p i]) o.at'=some x:=by
 have hmem:=List.mem_of_getElem? ho;have hr:=hc.refs o hmem;rcases kind_of hc.good hmem with h1|h1|h1|h1|⟨_,h1⟩
 iterate 4 (rw [h5] at h1;exact absurd h1 (by decide))
 unfold refMet at hr;simp only [h5] at hr;rw [if_neg (by decide),if_neg (by decide),if_neg (by decide),vertM_isSome,look_op hc.new,if_neg h1] at hr;unfold vertM;rw [part_look hc.new,if_neg h1];cases hx:vertOp L o.at' with
 | none=>rw [hx] at hr;cases hr
 | some y=>exact⟨_,rfl⟩
theorem vert_kill(hc:CheckOk L p)(ho:p.ops[i]? = some o)(h5:o.kind=5){x:VertM}(hx:vertM (L++[partP p i]) o.at'=some x):vertM (L++[partP p (i+1)])=updM (vertM (L++[partP p i])) o.at' (killV x):=by
 funext v;unfold updM;have hs:=vert_still hc ho (by rw [h5];decide) v
 by_cases hv:v=o.at'
 ·
  subst hv;rw [if_pos rfl];unfold vertM at hx ⊢;rw [hs,dead_step ho];have:(decide (o.kind=5) && decide (o.at'=o.at'))=true:=by simp [h5]
  rw [this,Bool.or_true];cases hv:vertOp (L++[partP p i]) o.at' with
  | none=>rw [hv] at hx;cases hx
  | some y=>rw [hv] at hx;cases hx;rfl
 rw [if_neg hv];unfold vertM;rw [hs,dead_step ho];have:(decide (o.kind=5) && decide (o.at'=v))=false:=by simp;intro _ e;exact hv e.symm
 rw [this,Bool.or_false]
def hasE(L:List PatchM)(e:EdgeM):Bool:=L.any fun p=>p.ops.any fun o=>decide (o.kind=4) && (decide (o.at'=e.1) && decide (o.to=e.2))
def fileAt(L:List PatchM)(v:VidM):VidM:=((vertM L v).map (·.file)).getD noVid
def edgeM(L:List PatchM)(e:EdgeM):Option VidM:=if hasE L e=true then some (fileAt L e.1) else none
theorem hasE_snoc(L:List PatchM)(p:PatchM)(e:EdgeM):hasE (L++[p]) e=(hasE L e || p.ops.any fun o=>decide (o.kind=4) && (decide (o.at'=e.1) && decide (o.to=e.2))):=by unfold hasE;simp
theorem hasE_step(ho:p.ops[i]? = some o)(e:EdgeM):hasE (L++[partP p (i+1)]) e=(hasE (L++[partP p i]) e || (decide (o.kind=4) && (decide (o.at'=e.1) && decide (o.to=e.2)))):=by rw [hasE_snoc,hasE_snoc,any_take ho,Bool.or_assoc]
theorem edge_zero:edgeM (L++[partP p 0])=edgeM L:=by funext e;unfold edgeM fileAt;rw [vert_zero,hasE_snoc];simp [partP]
theorem edge_makes(hw:WfG L)(hc:CheckOk L p)(hi:i<256)(ho:p.ops[i]? = some o)(hm:makesB o.kind=true):edgeM (L++[partP p (i+1)])=edgeM (L++[partP p i]):=by
 funext e;unfold edgeM;have h4:¬ o.kind=4:=by rcases (makes_iff _).1 hm with h|h|h <;> rw [h] <;> decide
 rw [hasE_step ho];have:(decide (o.kind=4) && (decide (o.at'=e.1) && decide (o.to=e.2)))=false:=by simp [h4]
 rw [this,Bool.or_false];split;rotate_left
 · rfl
 rename_i hE;unfold fileAt;rw [vert_makes hw hc hi ho hm,updM,if_neg];intro he;rw [hasE_snoc,Bool.or_eq_true] at hE;rcases hE with h|h
 · obtain⟨q,hq,h⟩:=List.any_eq_true.1 h;obtain⟨o',ho',h⟩:=List.any_eq_true.1 h;simp at h;have:=hw.refs q hq o' ho' e.1 (by rw [← h.2.1];exact refs_at_mem (by simp [h.1]));rw [he,hc.new] at this;cases this
 obtain⟨o',ho',h⟩:=List.any_eq_true.1 h;simp at h;obtain⟨j,hj⟩:=List.mem_iff_getElem?.1 ho';have hj':p.ops[j]? = some o'∧j<i:=by
  have hlt:j<i:=by have:=(List.getElem?_eq_some_iff.1 hj).1;simp only [partP,List.length_take] at this;omega
  simp only [partP] at hj;rw [List.getElem?_take,if_pos hlt] at hj;exact⟨hj,hlt⟩
 have:=(opGood_refs (oneB_parts (goodP_one hc.good hj'.1)).1 (v:=e.1) (by rw [← h.2.1];exact refs_at_mem (by simp [h.1]))).2 (by rw [he]);rw [he] at this;simp only at this;rw [ofNat_n hi] at this;omega
theorem edge_kill(hc:CheckOk L p)(ho:p.ops[i]? = some o)(h5:o.kind=5):edgeM (L++[partP p (i+1)])=edgeM (L++[partP p i]):=by
 funext e;unfold edgeM;rw [hasE_step ho];have:(decide (o.kind=4) && (decide (o.at'=e.1) && decide (o.to=e.2)))=false:=by simp [h5]
 rw [this,Bool.or_false];have:fileAt (L++[partP p (i+1)]) e.1=fileAt (L++[partP p i]) e.1:=by unfold fileAt vertM;rw [vert_still hc ho (by rw [h5];decide)];cases vertOp (L++[partP p i]) e.1 <;> rfl
 rw [this]
theorem edge_edge(hc:CheckOk L p)(ho:p.ops[i]? = some o)(h4:o.kind=4):edgeM (L++[partP p (i+1)])=updM (edgeM (L++[partP p i])) (o.at',o.to) (fileAt (L++[partP p i]) o.at'):=by
 funext e;unfold edgeM updM;rw [hasE_step ho];have hf:fileAt (L++[partP p (i+1)]) e.1=fileAt (L++[partP p i]) e.1:=by unfold fileAt;rw [vert_edge hc ho h4]
 rw [hf]
 by_cases he:e=(o.at',o.to)
 · subst he;rw [if_pos (by simp [h4]),if_pos rfl]
 rw [if_neg he];have:(decide (o.kind=4) && (decide (o.at'=e.1) && decide (o.to=e.2)))=false:=by simp;intro _ e1 e2;exact he (by rw [e1,e2])
 rw [this,Bool.or_false]
end
def idsOf(L:List PatchM):List VidM:=L.flatMap fun p=>(List.range p.ops.length).filterMap fun k=>match p.ops[k]? with|some o=>if makesB o.kind=true then some ⟨p.id,UInt8.ofNat k⟩ else none|none=>none
def idsM(L:List PatchM):List VidM:=setS packVid (idsOf L)
def vertsM(L:List PatchM):List VertM:=(idsM L).map fun v=>(vertM L v).getD noVert
theorem packVid_hi(a b:VidM)(h:packVid a=packVid b):a=b:=packVid_inj h
theorem vertM_id{x:VertM}(h:vertM L v=some x):x.id=v:=by
 unfold vertM at h;cases ho:vertOp L v with
 | none=>rw [ho] at h;cases h
 | some o=>rw [ho] at h;cases h;rfl
theorem mem_idsOf(hl:∀ p∈L,p.ops.length≤200)(v:VidM):v∈idsOf L↔(vertM L v).isSome=true:=by
 rw [vertM_isSome];unfold idsOf vertOp;rw [List.findSome?_isSome_iff,List.mem_flatMap];constructor
 ·
  rintro⟨p,hp,h⟩;refine⟨p,hp,?_⟩;obtain⟨k,hk,h⟩:=List.mem_filterMap.1 h;have hk:=List.mem_range.1 hk;have hpl:=hl p hp;cases ho:p.ops[k]? with
  | none=>rw [ho] at h;cases h
  | some o =>
   rw [ho] at h;simp only at h;split at h
   ·
    rename_i hm;cases h
    unfold madeBy;rw [if_pos rfl];simp only [ofNat_n (show k<256 by omega),ho];simp [Option.filter,hm]
   cases h
 rintro⟨p,hp,h⟩;refine⟨p,hp,?_⟩;unfold madeBy at h;split at h
 ·
  rename_i hid;cases ho:p.ops[v.n.toNat]? with
  | none=>rw [ho] at h;cases h
  | some o =>
   rw [ho] at h;have hm:makesB o.kind=true:=by
    cases hm:makesB o.kind with
    | true=>rfl
    | false=>simp [Option.filter,hm] at h
   refine List.mem_filterMap.2 ⟨v.n.toNat,List.mem_range.2 (List.getElem?_eq_some_iff.1 ho).1,?_⟩;rw [ho];simp only [hm,if_pos];cases v
   simp only at hid;simp [hid]
 cases h
theorem mem_idsM(hl:∀ p∈L,p.ops.length≤200)(v:VidM):v∈idsM L↔(vertM L v).isSome=true:=(mem_setS packVid_hi _ _).trans (mem_idsOf hl v)
theorem wf_len(hw:WfG L):∀ p∈L,p.ops.length≤200:=fun p hp=>(goodP_len (hw.good p hp)).2
theorem mem_vertsM(hl:∀ p∈L,p.ops.length≤200)(x:VertM):x∈vertsM L↔vertM L x.id=some x:=by
 unfold vertsM;rw [List.mem_map];constructor
 ·
  rintro⟨v,hv,rfl⟩;rw [mem_idsM hl] at hv;cases hx:vertM L v with
  | none=>rw [hx] at hv;cases hv
  | some x=>simp only [Option.getD_some];rw [vertM_id hx];exact hx
 intro h;exact⟨x.id,(mem_idsM hl _).2 (by rw [h];rfl),by rw [h];rfl⟩
def vertKey(x:VertM):Nat:=packVid x.id
theorem rises_vertsM(hl:∀ p∈L,p.ops.length≤200):Rises vertKey (vertsM L):=by
 unfold vertsM Rises;rw [List.pairwise_map];have hr:Rises packVid (idsM L):=rises_setS packVid_hi _;unfold Rises at hr;refine List.Pairwise.imp_of_mem (fun {a b} ha hb h => ?_) hr;have e:∀ v∈idsM L,vertKey ((vertM L v).getD noVert)=packVid v:=fun v hv=>by
  rw [mem_idsM hl] at hv;cases hx:vertM L v with
  | none=>rw [hx] at hv;cases hv
  | some x=>simp only [Option.getD_some,vertKey,vertM_id hx]
 rw [e a ha,e b hb];exact h
theorem verts_eq(hl:∀ p∈L,p.ops.length≤200)(f:VertM→Bool){out:List VertM}(hr:Rises vertKey out)(hm:∀ x,x∈out↔vertM L x.id=some x∧f x=true):out=(vertsM L).filter f:=by refine rises_ext hr ((rises_vertsM hl).filter f) fun x => ?_;rw [hm,List.mem_filter,mem_vertsM hl]
def ofM(L:List PatchM)(file:VidM)(kind:UInt8):List VertM:=(vertsM L).filter fun v=>decide (v.kind=kind) && decide (v.file=file)
def filesM(L:List PatchM):List VidM:=((vertsM L).filter fun v=>decide (v.kind=1)).map (·.id)
def edgeKey(e:EdgeM):Nat:=packVid e.1*4294967296+packVid e.2
theorem edgeKey_hi(a b:EdgeM)(h:edgeKey a=edgeKey b):a=b:=by
 obtain⟨a1,a2⟩:=a;obtain⟨b1,b2⟩:=b;have h1:=packVid_lt a2;have h2:=packVid_lt b2;unfold edgeKey at h;simp only at h;have e1:packVid a1=packVid b1:=by omega
 have e2:packVid a2=packVid b2:=by omega
 rw [packVid_inj e1,packVid_inj e2]
def edgesOf(L:List PatchM):List EdgeM:=L.flatMap fun p=>p.ops.filterMap fun o=>if o.kind=4 then some (o.at',o.to) else none
def edgesM(L:List PatchM):List EdgeM:=setS edgeKey (edgesOf L)
theorem mem_edgesOf(L:List PatchM)(e:EdgeM):e∈edgesOf L↔hasE L e=true:=by
 unfold edgesOf hasE;rw [List.mem_flatMap,List.any_eq_true];constructor
 ·
  rintro⟨p,hp,h⟩;obtain⟨o,ho,h⟩:=List.mem_filterMap.1 h;split at h
  ·
   rename_i h4;cases h
   exact⟨p,hp,List.any_eq_true.2 ⟨o,ho,by simp [h4]⟩⟩
  cases h
 rintro⟨p,hp,h⟩;obtain⟨o,ho,h⟩:=List.any_eq_true.1 h;simp at h;exact⟨p,hp,List.mem_filterMap.2 ⟨o,ho,by rw [if_pos h.1,h.2.1,h.2.2]⟩⟩
theorem mem_edgesM(L:List PatchM)(e:EdgeM):e∈edgesM L↔hasE L e=true:=(mem_setS edgeKey_hi _ _).trans (mem_edgesOf L e)
theorem edges_eq(f:VidM→Bool){out:List EdgeM}(hr:Rises edgeKey out)(hm:∀ e,e∈out↔∃ v,edgeM L e=some v∧f v=true):out=(edgesM L).filter fun e=>f (fileAt L e.1):=by
 refine rises_ext hr (List.Pairwise.filter _ (rises_setS edgeKey_hi _)) fun e => ?_;rw [hm,List.mem_filter,mem_edgesM];unfold edgeM;constructor
 ·
  rintro⟨v,h1,h2⟩;split at h1
  · rename_i h;cases h1;exact⟨h,h2⟩
  cases h1
 rintro⟨h1,h2⟩;exact⟨_,by rw [if_pos h1],h2⟩
def stepsM(L:List PatchM)(file:VidM):List EdgeM:=(edgesM L).filter fun e=>decide (fileAt L e.1=file)
end Go.Proofs.YtjccmcgglfncdaaGreatDoor
namespace Go.Proofs.YtjccmcgglfncdaaGreatDoor
section
def placeM(l:List VertM)(v:VidM):Nat:=(l.map (·.id)).idxOf v
theorem place_get{l:List VertM}{v:VidM}(h:v∈l.map (·.id)):∃ x,l[placeM l v]? = some x∧x.id=v:=by
 have hlt:placeM l v<(l.map (·.id)).length:=List.idxOf_lt_length_of_mem h;have h1:(l.map (·.id))[placeM l v]? = some v:=by rw [List.getElem?_eq_getElem hlt];exact congrArg some (List.getElem_idxOf hlt)
 rw [List.getElem?_map] at h1;cases hx:l[placeM l v]? with
 | none=>rw [hx] at h1;cases h1
 | some x=>rw [hx] at h1;exact⟨x,rfl,Option.some.inj h1⟩
theorem place_lt{l:List VertM}{v:VidM}(h:v∈l.map (·.id)):placeM l v<l.length:=by obtain⟨x,hx,_⟩:=place_get h;exact(List.getElem?_eq_some_iff.1 hx).1
def linesM(L:List PatchM)(file:VidM):List VertM:=ofM L file 3
def relM(L:List PatchM)(file:VidM):List (Nat × Nat):=(stepsM L file).map fun e=>(placeM (linesM L file) e.1,placeM (linesM L file) e.2)
theorem step_ends{L:List PatchM}(hw:WfG L)(hl:∀ p∈L,p.ops.length≤200){file:VidM}{e:EdgeM}(he:e∈stepsM L file):e.1∈(linesM L file).map (·.id)∧e.2∈(linesM L file).map (·.id):=by
 unfold stepsM at he;obtain⟨he1,he2⟩:=List.mem_filter.1 he;simp only [decide_eq_true_eq] at he2;rw [mem_edgesM] at he1;unfold hasE at he1;obtain⟨p,hp,h2⟩:=List.any_eq_true.1 he1;obtain⟨o,ho,h3⟩:=List.any_eq_true.1 h2;simp only [Bool.and_eq_true,decide_eq_true_eq] at h3;obtain⟨h4,h5,h6⟩:=h3;have hk:=hw.kinds p hp o ho;unfold refMet at hk;rw [if_neg (by rw [h4];decide),if_neg (by rw [h4];decide),if_pos h4,h5,h6] at hk;simp only [Bool.and_eq_true,decide_eq_true_eq] at hk;obtain⟨k1,k2,k3⟩:=hk;have key:∀ v,isKind L v 3=true→fileAt L v=file→v∈(linesM L file).map (·.id):=by
  intro v hv hf;unfold isKind at hv;cases hx:vertM L v with
  | none=>rw [hx] at hv;cases hv
  | some x =>rw [hx] at hv;have hk3:x.kind=3:=(by simpa using hv);have hfx:x.file=file:=(by unfold fileAt at hf;rw [hx] at hf;exact hf);have hid:=vertM_id hx;refine List.mem_map.2 ⟨x,?_,hid⟩;unfold linesM ofM vertsM;refine List.mem_filter.2 ⟨List.mem_map.2 ⟨v,?_,by rw [hx];rfl⟩,by simp [hk3,hfx]⟩;rw [mem_idsM hl,hx];rfl
 refine⟨key _ k1 he2,key _ k2 ?_⟩;have h7:fileAt L e.1=fileAt L e.2:=by unfold fileAt;rw [k3]
 rw [← h7];exact he2
theorem relM_lt{L:List PatchM}(hw:WfG L)(hl:∀ p∈L,p.ops.length≤200)(file:VidM):∀ s∈relM L file,s.1<(linesM L file).length∧s.2<(linesM L file).length:=by intro s hs;unfold relM at hs;obtain⟨e,he,rfl⟩:=List.mem_map.1 hs;obtain⟨h1,h2⟩:=step_ends hw hl he;exact⟨place_lt h1,place_lt h2⟩
def deadLine(l:List VertM)(i:Nat):Bool:=match l[i]? with|some x=>x.dead|none=>true
def FirmP(R:List (Nat × Nat))(n i:Nat):Prop:=i<n∧∀ j,j<n→j≠i→¬ AlikeP R i j
def keptTo(firm:List Nat)(ps:List (Nat × Nat))(m:Nat):List Int:=ps.foldl (fun out x=>out.set x.2 ((firm.getD x.1 0:Nat):Int)) (List.replicate m (-1))
def killsE(l:List VertM)(alive:List Nat)(kept:List Int):List OpM:=(alive.filter fun(i:Nat) => !kept.contains (Int.ofNat i)).map fun i=>⟨5,(l.getD i noVert).id,noVid,⟨#[]⟩⟩
def stepA(l:List VertM)(file:VidM)(id:PidM)(from':Nat)(s:List OpM × List VidM)(x:Int × ByteArray):List OpM × List VidM:=
 if 0≤x.1 then(s.1,s.2++[(l.getD x.1.toNat noVert).id]) else(s.1++[⟨3,file,noVid,x.2⟩],s.2++[⟨id,UInt8.ofNat (from'+s.1.length)⟩])
def addsTo(l:List VertM)(file:VidM)(id:PidM)(from':Nat)(kept:List Int)(want:List ByteArray)(ks:List OpM)(j:Nat):List OpM × List VidM:=((kept.zip want).take j).foldl (stepA l file id from') (ks,[])
open Classical in
noncomputable def edgesE(R:List (Nat × Nat))(kept:List Int)(at':List VidM)(j:Nat):List OpM:=
 if 0<j∧(kept.getD (j - 1) 0<0∨kept.getD j 0<0∨¬ BeforeP R (kept.getD (j - 1) 0).toNat (kept.getD j 0).toNat) then [⟨4,at'.getD (j - 1) noVid,at'.getD j noVid,⟨#[]⟩⟩] else []
noncomputable def editM(l:List VertM)(R:List (Nat × Nat))(alive firm:List Nat)(file:VidM)(id:PidM)(from':Nat)(want:List ByteArray)(ps:List (Nat × Nat)):List OpM:=
 let kept:=keptTo firm ps want.length
 let s:=addsTo l file id from' kept want (killsE l alive kept) want.length
 s.1++(List.range want.length).flatMap (edgesE R kept s.2)
end
theorem ePairsF_in(a b:List ByteArray):∀ f i j,∀ p∈pairsF a b f i j,i≤p.1∧j≤p.2∧p.1<a.length∧p.2<b.length∧a[p.1]? = b[p.2]?
 | 0,i,j,p,h=>by rw [pairsF_end_zero] at h;exact absurd h (List.not_mem_nil)
 | f+1,i,j,p,h=>by
  by_cases hin:i<a.length∧j<b.length
  rotate_left
  · rw [pairsF_end hin] at h;exact absurd h (List.not_mem_nil)
  have hx:=List.getElem?_eq_getElem hin.1;have hy:=List.getElem?_eq_getElem hin.2
  by_cases hxy:a[i]=b[j]
  ·
   rw [pairsF_eq hx hy hxy] at h;rcases List.mem_cons.1 h with rfl|h
   · exact⟨Nat.le_refl _,Nat.le_refl _,hin.1,hin.2,by rw [hx,hy,hxy]⟩
   have:=ePairsF_in a b f _ _ p h;exact⟨by omega,by omega,this.2.2⟩
  by_cases hl:lcsAt a b i (j+1)≤lcsAt a b (i+1) j
  · rw [pairsF_left hx hy hxy hl] at h;have:=ePairsF_in a b f _ _ p h;exact⟨by omega,this.2⟩
  rw [pairsF_right hx hy hxy hl] at h;have:=ePairsF_in a b f _ _ p h;exact⟨this.1,by omega,this.2.2⟩
theorem pairsF_up(a b:List ByteArray):∀ f i j,(pairsF a b f i j).Pairwise fun p q=>p.1<q.1∧p.2<q.2
 | 0,i,j=>by rw [pairsF_end_zero];exact List.Pairwise.nil
 | f+1,i,j=>by
  by_cases hin:i<a.length∧j<b.length
  ·
   have hx:=List.getElem?_eq_getElem hin.1;have hy:=List.getElem?_eq_getElem hin.2
   by_cases hxy:a[i]=b[j]
   · rw [pairsF_eq hx hy hxy];refine List.pairwise_cons.2 ⟨fun q hq => ?_,pairsF_up a b f _ _⟩;have:=ePairsF_in a b f _ _ q hq;exact⟨by show i<q.1;omega,by show j<q.2;omega⟩
   by_cases hl:lcsAt a b i (j+1)≤lcsAt a b (i+1) j
   · rw [pairsF_left hx hy hxy hl];exact pairsF_up a b f _ _
   rw [pairsF_right hx hy hxy hl];exact pairsF_up a b f _ _
  rw [pairsF_end hin];exact List.Pairwise.nil
theorem ePairs_in{a b:List ByteArray}{p:Nat × Nat}(h:p∈pairs a b):p.1<a.length∧p.2<b.length∧a[p.1]? = b[p.2]? := by unfold pairs at h;exact(ePairsF_in a b _ _ _ p h).2.2
theorem pairs_up(a b:List ByteArray):(pairs a b).Pairwise fun p q=>p.1<q.1∧p.2<q.2:=by unfold pairs;exact pairsF_up a b _ _ _
def setKept(firm:List Nat)(out:List Int)(p:Nat × Nat):List Int:=out.set p.2 ((firm.getD p.1 0:Nat):Int)
theorem keptTo_fold(firm:List Nat)(ps:List (Nat × Nat))(m:Nat):keptTo firm ps m=ps.foldl (setKept firm) (List.replicate m (-1)):=rfl
theorem kept_len(firm:List Nat):∀(ps:List (Nat × Nat)) (out:List Int),(ps.foldl (setKept firm) out).length=out.length
 | [],out=>rfl
 | p :: ps,out=>by rw [List.foldl_cons,kept_len firm ps];unfold setKept;simp
theorem kept_at(firm:List Nat):∀(ps:List (Nat × Nat)) (out:List Int),(ps.Pairwise fun p q=>p.1<q.1∧p.2<q.2)→(∀ p∈ps,p.2<out.length) →
  (∀ p∈ps,(ps.foldl (setKept firm) out)[p.2]? = some ((firm.getD p.1 0:Nat):Int))∧∀ j,(∀ p∈ps,p.2≠j)→(ps.foldl (setKept firm) out)[j]? = out[j]?
 | [],out,_,_=>⟨fun p h=>absurd h (List.not_mem_nil),fun j _=>rfl⟩
 | p :: ps,out,hp,hl=>by
  obtain⟨h1,h2⟩:=List.pairwise_cons.1 hp;have hlen:(setKept firm out p).length=out.length:=by unfold setKept;simp
  obtain⟨i1,i2⟩:=kept_at firm ps (setKept firm out p) h2 fun q hq=>by rw [hlen];exact hl q (List.mem_cons_of_mem _ hq)
  refine⟨fun q hq => ?_,fun j hj => ?_⟩
  ·
   rcases List.mem_cons.1 hq with rfl|hq
   · rw [List.foldl_cons,i2 q.2 fun r hr e=>by have:=(h1 r hr).2;omega];unfold setKept;rw [List.getElem?_set_self (hl q (List.mem_cons_self ..))]
   rw [List.foldl_cons];exact i1 q hq
  rw [List.foldl_cons,i2 j fun r hr=>hj r (List.mem_cons_of_mem _ hr)];unfold setKept;rw [List.getElem?_set_ne (hj p (List.mem_cons_self ..))]
theorem kept_mem{firm:List Nat}{a b:List ByteArray}(ha:a.length=firm.length){i:Nat}:((keptTo firm (pairs a b) b.length).contains (Int.ofNat i))=true↔∃ p∈pairs a b,firm[p.1]? = some i:=by
 have hK:=kept_at firm (pairs a b) (List.replicate b.length (-1)) (pairs_up a b) fun p hp=>by rw [List.length_replicate];exact(ePairs_in hp).2.1
 have hlen:=kept_len firm (pairs a b) (List.replicate b.length (-1));rw [List.length_replicate] at hlen;rw [keptTo_fold,List.contains_iff_mem];have hfirm:∀ p∈pairs a b,firm[p.1]? = some (firm.getD p.1 0):=fun p hp=>by have h1:=(ePairs_in hp).1;rw [ha] at h1;rw [List.getD_eq_getElem?_getD,List.getElem?_eq_getElem h1];rfl
 constructor
 ·
  intro h;obtain⟨j,hj⟩:=List.getElem?_of_mem h;rcases Classical.em (∃ p∈pairs a b,p.2=j) with⟨p,hp,rfl⟩|hno
  · rw [hK.1 p hp] at hj;have:=Option.some.inj hj;refine⟨p,hp,?_⟩;rw [hfirm p hp];exact congrArg some (Int.ofNat.inj this)
  rw [hK.2 j fun p hp e=>hno ⟨p,hp,e⟩,List.getElem?_replicate] at hj;split at hj
  · have:=Option.some.inj hj;exact absurd this (by intro e;cases e)
  cases hj
 rintro⟨p,hp,hi⟩;have h1:=hK.1 p hp;rw [hfirm p hp] at hi;rw [Option.some.inj hi] at h1;exact List.mem_of_getElem? h1
end Go.Proofs.YtjccmcgglfncdaaGreatDoor
namespace Go.Proofs.YtjccmcgglfncdaaGreatDoor
variable{t:ByteArray}{ps:List (Nat × Nat)}{firm:List Nat}{i k n:Nat}
def setMark(firm:List Nat)(out:List Bool)(p:Nat × Nat):List Bool:=out.set (firm.getD p.1 0) true
def marksTo(firm:List Nat)(ps:List (Nat × Nat))(n:Nat):List Bool:=ps.foldl (setMark firm) (List.replicate n false)
theorem foldl_take_succ{α β:Type}(f:β→α→β)(b:β){l:List α}{x:α}(h:l[k]? = some x):(l.take (k+1)).foldl f b=f ((l.take k).foldl f b) x:=by rw [take_succ' h,List.foldl_append];rfl
theorem marks_zero(firm:List Nat)(ps:List (Nat × Nat))(n:Nat):marksTo firm (ps.take 0) n=List.replicate n false:=rfl
theorem marks_succ{p:Nat × Nat}(h:ps[k]? = some p):marksTo firm (ps.take (k+1)) n=(marksTo firm (ps.take k) n).set (firm.getD p.1 0) true:=foldl_take_succ _ _ h
theorem kept_zero(firm:List Nat)(ps:List (Nat × Nat))(m:Nat):keptTo firm (ps.take 0) m=List.replicate m (-1):=rfl
theorem kept_succ{m:Nat}{p:Nat × Nat}(h:ps[k]? = some p):keptTo firm (ps.take (k+1)) m=(keptTo firm (ps.take k) m).set p.2 ((firm.getD p.1 0:Nat):Int):=foldl_take_succ (setKept firm) _ h
theorem marks_fold(firm:List Nat):∀(ps:List (Nat × Nat)) (out:List Bool) (i:Nat),(ps.foldl (setMark firm) out)[i]? = out[i]?.map fun b=>b || ps.any fun p=>firm.getD p.1 0 == i
 | [],out,i=>by simp
 | p :: ps,out,i=>by
  rw [List.foldl_cons,marks_fold firm ps];unfold setMark;rw [List.getElem?_set]
  by_cases h:firm.getD p.1 0=i
  ·
   rw [if_pos h];cases ho:out[i]? with
   | none =>have:=List.getElem?_eq_none_iff.1 ho;rw [if_neg (by omega)];rfl
   | some b =>have:=(List.getElem?_eq_some_iff.1 ho).1;rw [if_pos (by omega)];simp only [Option.map_some,List.any_cons,h,beq_self_eq_true,Bool.true_or,Bool.or_true]
  rw [if_neg h];cases ho:out[i]? with
  | none=>rfl
  | some b =>have e:(firm.getD p.1 0 == i)=false:=(by simpa using h);simp only [Option.map_some,List.any_cons,e,Bool.false_or]
theorem marks_len(firm:List Nat)(ps:List (Nat × Nat))(n:Nat):(marksTo firm ps n).length=n:=by
 have:∀(ps:List (Nat × Nat)) (out:List Bool),(ps.foldl (setMark firm) out).length=out.length:=by
  intro ps;induction ps with
  | nil=>intro out;rfl
  | cons p ps ih=>intro out;rw [List.foldl_cons,ih];unfold setMark;simp
 unfold marksTo;rw [this,List.length_replicate]
theorem kept_length(firm:List Nat)(ps:List (Nat × Nat))(m:Nat):(keptTo firm ps m).length=m:=by rw [keptTo_fold,kept_len,List.length_replicate]
theorem marks_at{a b:List ByteArray}(ha:a.length=firm.length)(hi:i<n):(marksTo firm (pairs a b) n)[i]? = some ((keptTo firm (pairs a b) b.length).contains (Int.ofNat i)):=by
 unfold marksTo;rw [marks_fold,List.getElem?_replicate,if_pos hi];simp only [Option.map_some,Bool.false_or,Option.some.injEq];rw [Bool.eq_iff_iff,kept_mem ha,List.any_eq_true];constructor
 · rintro⟨p,hp,h⟩;have h1:=(ePairs_in hp).1;rw [ha] at h1;refine⟨p,hp,?_⟩;rw [List.getD_eq_getElem?_getD,List.getElem?_eq_getElem h1] at h;rw [List.getElem?_eq_getElem h1];simpa using h
 rintro⟨p,hp,h⟩;refine⟨p,hp,?_⟩;rw [List.getD_eq_getElem?_getD,h];simp
theorem kept_is{m:Nat}(hf:∀ i∈firm,i<n)(hn:0<n∨ps=[]){j:Nat}{x:Int}(h:(keptTo firm ps m)[j]? = some x):x = -1∨∃ i:Nat,x=(i:Int)∧i<n:=by
 have key:∀(ps:List (Nat × Nat)) (out:List Int),(0<n∨ps=[])→(∀ x∈out,x = -1∨∃ i:Nat,x=(i:Int)∧i<n)→∀ x∈ps.foldl (setKept firm) out,x = -1∨∃ i:Nat,x=(i:Int)∧i<n:=by
  intro ps;induction ps with
  | nil=>intro out _ ho;exact ho
  | cons p ps ih =>
   intro out hn ho;have hn':0<n:=hn.resolve_right (by simp);rw [List.foldl_cons];refine ih _ (.inl hn') fun x hx => ?_;unfold setKept at hx;rcases List.mem_or_eq_of_mem_set hx with hx|rfl
   · exact ho x hx
   refine .inr ⟨_,rfl,?_⟩;rw [List.getD_eq_getElem?_getD];cases hk:firm[p.1]? with
   | none=>exact hn'
   | some y=>exact hf y (List.mem_of_getElem? hk)
 rw [keptTo_fold] at h;exact key ps _ hn (fun x hx=>.inl (List.mem_replicate.1 hx).2) x (List.mem_of_getElem? h)
def killV5(l:List VertM)(i:Nat):OpM:=⟨5,(l.getD i noVert).id,noVid,⟨#[]⟩⟩
theorem kills_zero(l:List VertM)(kept:List Int)(alive:List Nat):killsE l (alive.take 0) kept=[]:=rfl
theorem kills_yes{l:List VertM}{kept:List Int}{alive:List Nat}(h:alive[k]? = some i)(hc:kept.contains (Int.ofNat i)=false):killsE l (alive.take (k+1)) kept=killsE l (alive.take k) kept++[killV5 l i]:=by
 unfold killsE;rw [take_succ' h,List.filter_append,List.map_append];have:[i].filter (fun(i:Nat) => !kept.contains (Int.ofNat i))=[i]:=by rw [List.filter_cons_of_pos (by rw [hc];rfl)];rfl
 rw [this];rfl
theorem kills_no{l:List VertM}{kept:List Int}{alive:List Nat}(h:alive[k]? = some i)(hc:kept.contains (Int.ofNat i)=true):killsE l (alive.take (k+1)) kept=killsE l (alive.take k) kept:=by
 unfold killsE;rw [take_succ' h,List.filter_append,List.map_append];have:[i].filter (fun(i:Nat) => !kept.contains (Int.ofNat i))=[]:=by rw [List.filter_cons_of_neg (by rw [hc];decide)];rfl
 rw [this,List.map_nil,List.append_nil]
theorem kills_len(l:List VertM)(kept:List Int)(alive:List Nat):(killsE l alive kept).length≤alive.length:=by unfold killsE;rw [List.length_map];exact List.length_filter_le _ _
section
variable {l : List VertM} {file : VidM} {id : PidM} {from' : Nat} {kept : List Int} {want : List ByteArray} {ks : List OpM} {j : Nat}
theorem adds_zero:addsTo l file id from' kept want ks 0=(ks,[]):=rfl
theorem zip_at{x:Int}(hk:kept[j]? = some x)(ht:want[j]? = some t):(kept.zip want)[j]? = some (x,t):=by rw [List.getElem?_zip_eq_some];exact⟨hk,ht⟩
theorem stepA_yes{s:List OpM × List VidM}{x:Int × ByteArray}(h:0≤x.1):stepA l file id from' s x=(s.1,s.2++[(l.getD x.1.toNat noVert).id]):=by unfold stepA;rw [if_pos h]
theorem stepA_no{s:List OpM × List VidM}{x:Int × ByteArray}(h:¬ 0≤x.1):stepA l file id from' s x=(s.1++[⟨3,file,noVid,x.2⟩],s.2++[⟨id,UInt8.ofNat (from'+s.1.length)⟩]):=by unfold stepA;rw [if_neg h]
theorem stepA_len(s:List OpM × List VidM)(x:Int × ByteArray):(stepA l file id from' s x).2.length=s.2.length+1∧(stepA l file id from' s x).1.length≤s.1.length+1:=by
 by_cases h:0≤x.1
 · rw [stepA_yes h];exact⟨by rw [List.length_append];rfl,Nat.le_succ _⟩
 rw [stepA_no h];exact⟨by rw [List.length_append];rfl,by rw [List.length_append];exact Nat.le_refl _⟩
theorem adds_yes(hk:kept[j]? = some (i:Int))(ht:want[j]? = some t) :
  addsTo l file id from' kept want ks (j+1)=((addsTo l file id from' kept want ks j).1,(addsTo l file id from' kept want ks j).2++[(l.getD i noVert).id]):=by unfold addsTo;rw [foldl_take_succ _ _ (zip_at hk ht)];generalize ((kept.zip want).take j).foldl (stepA l file id from') (ks,[])=s;rw [stepA_yes (Int.natCast_nonneg i)];rfl
theorem adds_no(hk:kept[j]? = some (-1))(ht:want[j]? = some t) :
  addsTo l file id from' kept want ks (j+1)=((addsTo l file id from' kept want ks j).1++[⟨3,file,noVid,t⟩],(addsTo l file id from' kept want ks j).2++[⟨id,UInt8.ofNat (from'+(addsTo l file id from' kept want ks j).1.length)⟩]):=by unfold addsTo;rw [foldl_take_succ _ _ (zip_at hk ht)];generalize ((kept.zip want).take j).foldl (stepA l file id from') (ks,[])=s;rw [stepA_no (show ¬ (0:Int) ≤ -1 by decide)]
theorem adds_len2(hl:kept.length=want.length):∀ j,j≤want.length→(addsTo l file id from' kept want ks j).2.length=j
 | 0,_=>rfl
 | j+1,hj=>by have ih:=adds_len2 hl j (by omega);have ht:=List.getElem?_eq_getElem (l:=want) (i:=j) (by omega);have hk:=List.getElem?_eq_getElem (l:=kept) (i:=j) (by omega);unfold addsTo at ih ⊢;rw [foldl_take_succ _ _ (zip_at hk ht)];rw [(stepA_len _ _).1,ih]
theorem adds_len1:∀ j,(addsTo l file id from' kept want ks j).1.length≤ks.length+j
 | 0=>by simp [adds_zero]
 | j+1=>by
  have ih:=adds_len1 j;unfold addsTo at ih ⊢;cases hx:(kept.zip want)[j]? with
  | none =>have:=List.getElem?_eq_none_iff.1 hx;rw [List.take_of_length_le (by omega)] at ih ⊢;omega
  | some x =>rw [foldl_take_succ _ _ hx];have:=(stepA_len (l:=l) (file:=file) (id:=id) (from':=from') (((kept.zip want).take j).foldl (stepA l file id from') (ks,[])) x).2;omega
end
noncomputable def tiesTo(R:List (Nat × Nat))(kept:List Int)(at':List VidM)(j:Nat):List OpM:=(List.range j).flatMap (edgesE R kept at')
open Classical in
noncomputable def befB(R:List (Nat × Nat))(i j:Nat):Bool:=decide (BeforeP R i j)
theorem befB_iff{R:List (Nat × Nat)}{j:Nat}:befB R i j=true↔BeforeP R i j:=by unfold befB;simp
theorem ties_zero(R:List (Nat × Nat))(kept:List Int)(at':List VidM):tiesTo R kept at' 0=[]:=rfl
theorem ties_succ(R:List (Nat × Nat))(kept:List Int)(at':List VidM)(j:Nat):tiesTo R kept at' (j+1)=tiesTo R kept at' j++edgesE R kept at' j:=by unfold tiesTo;rw [List.range_succ,List.flatMap_append];simp
theorem ties_one(R:List (Nat × Nat))(kept:List Int)(at':List VidM):tiesTo R kept at' 1=[]:=by rw [ties_succ,ties_zero];unfold edgesE;rw [if_neg (fun h=>absurd h.1 (by decide))];rfl
section
variable {R : List (Nat × Nat)} {kept : List Int} {at' : List VidM} {j : Nat} {x y : Int} {u v : VidM}
theorem getD_of{α:Type}{l:List α}{x d:α}(h:l[k]? = some x):l.getD k d=x:=by rw [List.getD_eq_getElem?_getD,h];rfl
theorem ties_yes(hx:kept[j]? = some x)(hy:kept[j+1]? = some y)(hu:at'[j]? = some u)(hv:at'[j+1]? = some v)(h:x<0∨y<0∨befB R x.toNat y.toNat=false) :
  tiesTo R kept at' (j+1+1)=tiesTo R kept at' (j+1)++[⟨4,u,v,⟨#[]⟩⟩]:=by rw [ties_succ R kept at' (j+1)];unfold edgesE;rw [Nat.add_sub_cancel,getD_of hx,getD_of hy,getD_of hu,getD_of hv,if_pos ⟨by omega,h.imp id (Or.imp id fun h q=>by rw [befB_iff.2 q] at h;cases h)⟩]
theorem ties_no(hx:kept[j]? = some x)(hy:kept[j+1]? = some y)(h1:0≤x)(h2:0≤y)(h3:befB R x.toNat y.toNat=true):tiesTo R kept at' (j+1+1)=tiesTo R kept at' (j+1):=by
 rw [ties_succ R kept at' (j+1)];unfold edgesE;rw [Nat.add_sub_cancel,getD_of hx,getD_of hy,if_neg,List.append_nil];rintro⟨_,h|h|h⟩
 · omega
 · omega
 exact h (befB_iff.1 h3)
theorem ties_len(R:List (Nat × Nat))(kept:List Int)(at':List VidM):∀ j,(tiesTo R kept at' j).length≤j
 | 0=>Nat.le_refl _
 | j+1=>by
  have ih:=ties_len R kept at' j;rw [ties_succ,List.length_append];unfold edgesE;split
  · simp only [List.length_cons,List.length_nil];omega
  simp only [List.length_nil];omega
end
theorem edit_eq(l:List VertM)(R:List (Nat × Nat))(alive firm:List Nat)(file:VidM)(id:PidM)(from':Nat)(want:List ByteArray)(ps:List (Nat × Nat)) :
  editM l R alive firm file id from' want ps=(addsTo l file id from' (keptTo firm ps want.length) want (killsE l alive (keptTo firm ps want.length)) want.length).1++tiesTo R (keptTo firm ps want.length) (addsTo l file id from' (keptTo firm ps want.length) want (killsE l alive (keptTo firm ps want.length)) want.length).2 want.length:=rfl
end Go.Proofs.YtjccmcgglfncdaaGreatDoor
