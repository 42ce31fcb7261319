/- What is proved: PlanTwo, for every input; of the listed tables the walk needs the powers of ten. -/
import Derived.Test.YtjccmcgglfncdaaGreatDoorTGrQ
import Derived.Test.YtjccmcgglfncdaaGreatDoorTMap
set_option linter.unusedVariables false
set_option linter.unusedSimpArgs false
namespace Go.Proofs.YtjccmcgglfncdaaGreatDoor
open Go Go.RowKit
variable{L:List PatchM}{i:Nat}{v:VidM}
def partP(p:PatchM)(k:Nat):PatchM:=⟨p.id,p.deps,p.ops.take k⟩
theorem part_all(p:PatchM):partP p p.ops.length=p:=by unfold partP;rw [List.take_length]
theorem makes_iff(k:UInt8):makesB k=true↔k=1∨k=2∨k=3:=by unfold makesB;simp
theorem take_succ'{α:Type}{xs:List α}{x:α}(h:xs[i]? = some x):xs.take (i+1)=xs.take i++[x]:=by rw [List.take_add_one,h];rfl
theorem any_take{p:PatchM}{o:OpM}(h:p.ops[i]? = some o)(f:OpM→Bool):(partP p (i+1)).ops.any f=((partP p i).ops.any f || f o):=by unfold partP;rw [take_succ' h];simp
theorem ofNat_n(h:i<256):(UInt8.ofNat i).toNat=i:=by simp;omega
section
variable {L : List PatchM} {p : PatchM} {i : Nat} {o : OpM}
theorem part_look(hn:hasM L p.id=false)(k:Nat)(v:VidM):vertOp (L++[partP p k]) v=if v.pid=p.id then madeBy (partP p k) v else vertOp L v:=look_op (p:=partP p k) hn v
theorem madeBy_part(k:Nat)(hv:v.pid=p.id):madeBy (partP p k) v=((p.ops.take k)[v.n.toNat]?).filter fun o=>makesB o.kind:=by unfold madeBy partP;rw [if_pos hv.symm]
theorem madeBy_step(ho:p.ops[i]? = some o)(hv:v.pid=p.id):madeBy (partP p (i+1)) v=if v.n.toNat=i then(if makesB o.kind=true then some o else none) else madeBy (partP p i) v:=by
 have hil:=(List.getElem?_eq_some_iff.1 ho).1;rw [madeBy_part _ hv,madeBy_part _ hv,take_succ' ho]
 by_cases h:v.n.toNat=i
 · rw [if_pos h,h,List.getElem?_append_right (by rw [List.length_take];omega),List.length_take,Nat.min_eq_left (by omega)];simp [Option.filter]
 rw [if_neg h]
 by_cases h2:v.n.toNat<i
 · rw [List.getElem?_append_left (by rw [List.length_take];omega)]
 have e1:(p.ops.take i++[o])[v.n.toNat]? = none:=by rw [List.getElem?_eq_none_iff];simp;omega
 have e2:(p.ops.take i)[v.n.toNat]? = none:=by rw [List.getElem?_eq_none_iff];simp;omega
 rw [e1,e2]
theorem own_alive(hw:WfG L)(hc:CheckOk L p){k:Nat}(hv:v.pid=p.id):deadM (L++[partP p k]) v=false:=by
 cases h:deadM (L++[partP p k]) v with
 | false=>rfl
 | true =>
  exfalso;rw [deadM_snoc,Bool.or_eq_true] at h;rcases h with h|h
  · obtain⟨q,hq,h⟩:=List.any_eq_true.1 h;obtain⟨o,ho,h⟩:=List.any_eq_true.1 h;simp at h;have:=hw.refs q hq o ho v (by rw [← h.2];exact refs_at_mem (by simp [h.1]));rw [hv,hc.new] at this;cases this
  ·
   obtain⟨o,ho,h⟩:=List.any_eq_true.1 h;simp at h;rcases kind_of hc.good (List.mem_of_mem_take ho) with h1|h1|h1|h1|⟨_,h1⟩
   iterate 4 (rw [h.1] at h1;exact absurd h1 (by decide))
   exact h1 (by rw [h.2];exact hv)
def madeV(p:PatchM)(i:Nat)(o:OpM):VertM:=⟨⟨p.id,UInt8.ofNat i⟩,o.kind,fileOf ⟨p.id,UInt8.ofNat i⟩ o,o.text,false⟩
theorem dead_step(ho:p.ops[i]? = some o)(v:VidM):deadM (L++[partP p (i+1)]) v=(deadM (L++[partP p i]) v || (decide (o.kind=5) && decide (o.at'=v))):=by rw [deadM_snoc,deadM_snoc,any_take ho,Bool.or_assoc]
theorem vert_zero:vertM (L++[partP p 0])=vertM L:=by
 funext v;unfold vertM;rw [vertOp_snoc,deadM_snoc];have:madeBy (partP p 0) v=none:=by unfold madeBy partP;simp
 rw [this];simp [partP]
theorem vert_makes(hw:WfG L)(hc:CheckOk L p)(hi:i<256)(ho:p.ops[i]? = some o)(hm:makesB o.kind=true):vertM (L++[partP p (i+1)])=updM (vertM (L++[partP p i])) ⟨p.id,UInt8.ofNat i⟩ (madeV p i o):=by
 funext v;have h5:¬ o.kind=5:=by rcases (makes_iff _).1 hm with h|h|h <;> rw [h] <;> decide
 unfold updM vertM
 by_cases hv:v=⟨p.id,UInt8.ofNat i⟩
 · subst hv;rw [if_pos rfl,part_look hc.new,if_pos rfl,madeBy_step ho rfl,if_pos (ofNat_n hi),if_pos hm];rw [own_alive hw hc rfl];rfl
 rw [if_neg hv,part_look hc.new,part_look hc.new,dead_step ho];have:(decide (o.kind=5) && decide (o.at'=v))=false:=by simp [h5]
 rw [this,Bool.or_false]
 by_cases hp:v.pid=p.id
 ·
  rw [if_pos hp,if_pos hp,madeBy_step ho hp,if_neg];intro e;apply hv;cases v
  simp only at hp e;subst hp;congr 1;exact UInt8.toNat_inj.1 (by rw [e,ofNat_n hi])
 rw [if_neg hp,if_neg hp]
theorem vert_still(hc:CheckOk L p)(ho:p.ops[i]? = some o)(hm:makesB o.kind=false)(v:VidM):vertOp (L++[partP p (i+1)]) v=vertOp (L++[partP p i]) v:=by
 rw [part_look hc.new,part_look hc.new]
 by_cases hp:v.pid=p.id
 ·
  rw [if_pos hp,if_pos hp,madeBy_step ho hp];split
  · rename_i e;have hil:=(List.getElem?_eq_some_iff.1 ho).1;rw [hm,madeBy_part _ hp];have:(p.ops.take i)[v.n.toNat]? = none:=(by rw [List.getElem?_eq_none_iff];simp;omega);rw [this];rfl
  rfl
 rw [if_neg hp,if_neg hp]
theorem vert_edge(hc:CheckOk L p)(ho:p.ops[i]? = some o)(h4:o.kind=4):vertM (L++[partP p (i+1)])=vertM (L++[partP p i]):=by
 funext v;unfold vertM;rw [vert_still hc ho (by rw [h4];decide),dead_step ho];have:(decide (o.kind=5) && decide (o.at'=v))=false:=by simp [h4]
 rw [this,Bool.or_false]
def killV(x:VertM):VertM:={x with dead:=true}
theorem kill_there(hc:CheckOk L p)(ho:p.ops[i]? = some o)(h5:o.kind=5):∃ x,vertM (L++[partP p i]) o.at'=some x:=by
 have hmem:=List.mem_of_getElem? ho;have hr:=hc.refs o hmem;rcases kind_of hc.good hmem with h1|h1|h1|h1|⟨_,h1⟩
 iterate 4 (rw [h5] at h1;exact absurd h1 (by decide))
 unfold refMet at hr;simp only [h5] at hr;rw [if_neg (by decide),if_neg (by decide),if_neg (by decide),vertM_isSome,look_op hc.new,if_neg h1] at hr;unfold vertM;rw [part_look hc.new,if_neg h1];cases hx:vertOp L o.at' with
 | none=>rw [hx] at hr;cases hr
 | some y=>exact⟨_,rfl⟩
theorem vert_kill(hc:CheckOk L p)(ho:p.ops[i]? = some o)(h5:o.kind=5){x:VertM}(hx:vertM (L++[partP p i]) o.at'=some x):vertM (L++[partP p (i+1)])=updM (vertM (L++[partP p i])) o.at' (killV x):=by
 funext v;unfold updM;have hs:=vert_still hc ho (by rw [h5];decide) v
 by_cases hv:v=o.at'
 ·
  subst hv;rw [if_pos rfl];unfold vertM at hx ⊢;rw [hs,dead_step ho];have:(decide (o.kind=5) && decide (o.at'=o.at'))=true:=by simp [h5]
  rw [this,Bool.or_true];cases hv:vertOp (L++[partP p i]) o.at' with
  | none=>rw [hv] at hx;cases hx
  | some y=>rw [hv] at hx;cases hx;rfl
 rw [if_neg hv];unfold vertM;rw [hs,dead_step ho];have:(decide (o.kind=5) && decide (o.at'=v))=false:=by simp;intro _ e;exact hv e.symm
 rw [this,Bool.or_false]
def hasE(L:List PatchM)(e:EdgeM):Bool:=L.any fun p=>p.ops.any fun o=>decide (o.kind=4) && (decide (o.at'=e.1) && decide (o.to=e.2))
def fileAt(L:List PatchM)(v:VidM):VidM:=((vertM L v).map (·.file)).getD noVid
def edgeM(L:List PatchM)(e:EdgeM):Option VidM:=if hasE L e=true then some (fileAt L e.1) else none
theorem hasE_snoc(L:List PatchM)(p:PatchM)(e:EdgeM):hasE (L++[p]) e=(hasE L e || p.ops.any fun o=>decide (o.kind=4) && (decide (o.at'=e.1) && decide (o.to=e.2))):=by unfold hasE;simp
theorem hasE_step(ho:p.ops[i]? = some o)(e:EdgeM):hasE (L++[partP p (i+1)]) e=(hasE (L++[partP p i]) e || (decide (o.kind=4) && (decide (o.at'=e.1) && decide (o.to=e.2)))):=by rw [hasE_snoc,hasE_snoc,any_take ho,Bool.or_assoc]
theorem edge_zero:edgeM (L++[partP p 0])=edgeM L:=by funext e;unfold edgeM fileAt;rw [vert_zero,hasE_snoc];simp [partP]
theorem edge_makes(hw:WfG L)(hc:CheckOk L p)(hi:i<256)(ho:p.ops[i]? = some o)(hm:makesB o.kind=true):edgeM (L++[partP p (i+1)])=edgeM (L++[partP p i]):=by
 funext e;unfold edgeM;have h4:¬ o.kind=4:=by rcases (makes_iff _).1 hm with h|h|h <;> rw [h] <;> decide
 rw [hasE_step ho];have:(decide (o.kind=4) && (decide (o.at'=e.1) && decide (o.to=e.2)))=false:=by simp [h4]
 rw [this,Bool.or_false];split;rotate_left
 · rfl
 rename_i hE;unfold fileAt;rw [vert_makes hw hc hi ho hm,updM,if_neg];intro he;rw [hasE_snoc,Bool.or_eq_true] at hE;rcases hE with h|h
 · obtain⟨q,hq,h⟩:=List.any_eq_true.1 h;obtain⟨o',ho',h⟩:=List.any_eq_true.1 h;simp at h;have:=hw.refs q hq o' ho' e.1 (by rw [← h.2.1];exact refs_at_mem (by simp [h.1]));rw [he,hc.new] at this;cases this
 obtain⟨o',ho',h⟩:=List.any_eq_true.1 h;simp at h;obtain⟨j,hj⟩:=List.mem_iff_getElem?.1 ho';have hj':p.ops[j]? = some o'∧j<i:=by
  have hlt:j<i:=by have:=(List.getElem?_eq_some_iff.1 hj).1;simp only [partP,List.length_take] at this;omega
  simp only [partP] at hj;rw [List.getElem?_take,if_pos hlt] at hj;exact⟨hj,hlt⟩
 have:=(opGood_refs (oneB_parts (goodP_one hc.good hj'.1)).1 (v:=e.1) (by rw [← h.2.1];exact refs_at_mem (by simp [h.1]))).2 (by rw [he]);rw [he] at this;simp only at this;rw [ofNat_n hi] at this;omega
theorem edge_kill(hc:CheckOk L p)(ho:p.ops[i]? = some o)(h5:o.kind=5):edgeM (L++[partP p (i+1)])=edgeM (L++[partP p i]):=by
 funext e;unfold edgeM;rw [hasE_step ho];have:(decide (o.kind=4) && (decide (o.at'=e.1) && decide (o.to=e.2)))=false:=by simp [h5]
 rw [this,Bool.or_false];have:fileAt (L++[partP p (i+1)]) e.1=fileAt (L++[partP p i]) e.1:=by unfold fileAt vertM;rw [vert_still hc ho (by rw [h5];decide)];cases vertOp (L++[partP p i]) e.1 <;> rfl
 rw [this]
theorem edge_edge(hc:CheckOk L p)(ho:p.ops[i]? = some o)(h4:o.kind=4):edgeM (L++[partP p (i+1)])=updM (edgeM (L++[partP p i])) (o.at',o.to) (fileAt (L++[partP p i]) o.at'):=by
 funext e;unfold edgeM updM;rw [hasE_step ho];have hf:fileAt (L++[partP p (i+1)]) e.1=fileAt (L++[partP p i]) e.1:=by unfold fileAt;rw [vert_edge hc ho h4]
 rw [hf]
 by_cases he:e=(o.at',o.to)
 · subst he;rw [if_pos (by simp [h4]),if_pos rfl]
 rw [if_neg he];have:(decide (o.kind=4) && (decide (o.at'=e.1) && decide (o.to=e.2)))=false:=by simp;intro _ e1 e2;exact he (by rw [e1,e2])
 rw [this,Bool.or_false]
end
def idsOf(L:List PatchM):List VidM:=L.flatMap fun p=>(List.range p.ops.length).filterMap fun k=>match p.ops[k]? with|some o=>if makesB o.kind=true then some ⟨p.id,UInt8.ofNat k⟩ else none|none=>none
def idsM(L:List PatchM):List VidM:=setS packVid (idsOf L)
def vertsM(L:List PatchM):List VertM:=(idsM L).map fun v=>(vertM L v).getD noVert
theorem packVid_hi(a b:VidM)(h:packVid a=packVid b):a=b:=packVid_inj h
theorem vertM_id{x:VertM}(h:vertM L v=some x):x.id=v:=by
 unfold vertM at h;cases ho:vertOp L v with
 | none=>rw [ho] at h;cases h
 | some o=>rw [ho] at h;cases h;rfl
theorem mem_idsOf(hl:∀ p∈L,p.ops.length≤200)(v:VidM):v∈idsOf L↔(vertM L v).isSome=true:=by
 rw [vertM_isSome];unfold idsOf vertOp;rw [List.findSome?_isSome_iff,List.mem_flatMap];constructor
 ·
  rintro⟨p,hp,h⟩;refine⟨p,hp,?_⟩;obtain⟨k,hk,h⟩:=List.mem_filterMap.1 h;have hk:=List.mem_range.1 hk;have hpl:=hl p hp;cases ho:p.ops[k]? with
  | none=>rw [ho] at h;cases h
  | some o =>
   rw [ho] at h;simp only at h;split at h
   ·
    rename_i hm;cases h
    unfold madeBy;rw [if_pos rfl];simp only [ofNat_n (show k<256 by omega),ho];simp [Option.filter,hm]
   cases h
 rintro⟨p,hp,h⟩;refine⟨p,hp,?_⟩;unfold madeBy at h;split at h
 ·
  rename_i hid;cases ho:p.ops[v.n.toNat]? with
  | none=>rw [ho] at h;cases h
  | some o =>
   rw [ho] at h;have hm:makesB o.kind=true:=by
    cases hm:makesB o.kind with
    | true=>rfl
    | false=>simp [Option.filter,hm] at h
   refine List.mem_filterMap.2 ⟨v.n.toNat,List.mem_range.2 (List.getElem?_eq_some_iff.1 ho).1,?_⟩;rw [ho];simp only [hm,if_pos];cases v
   simp only at hid;simp [hid]
 cases h
theorem mem_idsM(hl:∀ p∈L,p.ops.length≤200)(v:VidM):v∈idsM L↔(vertM L v).isSome=true:=(mem_setS packVid_hi _ _).trans (mem_idsOf hl v)
theorem wf_len(hw:WfG L):∀ p∈L,p.ops.length≤200:=fun p hp=>(goodP_len (hw.good p hp)).2
theorem mem_vertsM(hl:∀ p∈L,p.ops.length≤200)(x:VertM):x∈vertsM L↔vertM L x.id=some x:=by
 unfold vertsM;rw [List.mem_map];constructor
 ·
  rintro⟨v,hv,rfl⟩;rw [mem_idsM hl] at hv;cases hx:vertM L v with
  | none=>rw [hx] at hv;cases hv
  | some x=>simp only [Option.getD_some];rw [vertM_id hx];exact hx
 intro h;exact⟨x.id,(mem_idsM hl _).2 (by rw [h];rfl),by rw [h];rfl⟩
def vertKey(x:VertM):Nat:=packVid x.id
theorem rises_vertsM(hl:∀ p∈L,p.ops.length≤200):Rises vertKey (vertsM L):=by
 unfold vertsM Rises;rw [List.pairwise_map];have hr:Rises packVid (idsM L):=rises_setS packVid_hi _;unfold Rises at hr;refine List.Pairwise.imp_of_mem (fun {a b} ha hb h => ?_) hr;have e:∀ v∈idsM L,vertKey ((vertM L v).getD noVert)=packVid v:=fun v hv=>by
  rw [mem_idsM hl] at hv;cases hx:vertM L v with
  | none=>rw [hx] at hv;cases hv
  | some x=>simp only [Option.getD_some,vertKey,vertM_id hx]
 rw [e a ha,e b hb];exact h
theorem verts_eq(hl:∀ p∈L,p.ops.length≤200)(f:VertM→Bool){out:List VertM}(hr:Rises vertKey out)(hm:∀ x,x∈out↔vertM L x.id=some x∧f x=true):out=(vertsM L).filter f:=by refine rises_ext hr ((rises_vertsM hl).filter f) fun x => ?_;rw [hm,List.mem_filter,mem_vertsM hl]
def ofM(L:List PatchM)(file:VidM)(kind:UInt8):List VertM:=(vertsM L).filter fun v=>decide (v.kind=kind) && decide (v.file=file)
def filesM(L:List PatchM):List VidM:=((vertsM L).filter fun v=>decide (v.kind=1)).map (·.id)
def edgeKey(e:EdgeM):Nat:=packVid e.1*4294967296+packVid e.2
theorem edgeKey_hi(a b:EdgeM)(h:edgeKey a=edgeKey b):a=b:=by
 obtain⟨a1,a2⟩:=a;obtain⟨b1,b2⟩:=b;have h1:=packVid_lt a2;have h2:=packVid_lt b2;unfold edgeKey at h;simp only at h;have e1:packVid a1=packVid b1:=by omega
 have e2:packVid a2=packVid b2:=by omega
 rw [packVid_inj e1,packVid_inj e2]
def edgesOf(L:List PatchM):List EdgeM:=L.flatMap fun p=>p.ops.filterMap fun o=>if o.kind=4 then some (o.at',o.to) else none
def edgesM(L:List PatchM):List EdgeM:=setS edgeKey (edgesOf L)
theorem mem_edgesOf(L:List PatchM)(e:EdgeM):e∈edgesOf L↔hasE L e=true:=by
 unfold edgesOf hasE;rw [List.mem_flatMap,List.any_eq_true];constructor
 ·
  rintro⟨p,hp,h⟩;obtain⟨o,ho,h⟩:=List.mem_filterMap.1 h;split at h
  ·
   rename_i h4;cases h
   exact⟨p,hp,List.any_eq_true.2 ⟨o,ho,by simp [h4]⟩⟩
  cases h
 rintro⟨p,hp,h⟩;obtain⟨o,ho,h⟩:=List.any_eq_true.1 h;simp at h;exact⟨p,hp,List.mem_filterMap.2 ⟨o,ho,by rw [if_pos h.1,h.2.1,h.2.2]⟩⟩
theorem mem_edgesM(L:List PatchM)(e:EdgeM):e∈edgesM L↔hasE L e=true:=(mem_setS edgeKey_hi _ _).trans (mem_edgesOf L e)
theorem edges_eq(f:VidM→Bool){out:List EdgeM}(hr:Rises edgeKey out)(hm:∀ e,e∈out↔∃ v,edgeM L e=some v∧f v=true):out=(edgesM L).filter fun e=>f (fileAt L e.1):=by
 refine rises_ext hr (List.Pairwise.filter _ (rises_setS edgeKey_hi _)) fun e => ?_;rw [hm,List.mem_filter,mem_edgesM];unfold edgeM;constructor
 ·
  rintro⟨v,h1,h2⟩;split at h1
  · rename_i h;cases h1;exact⟨h,h2⟩
  cases h1
 rintro⟨h1,h2⟩;exact⟨_,by rw [if_pos h1],h2⟩
def stepsM(L:List PatchM)(file:VidM):List EdgeM:=(edgesM L).filter fun e=>decide (fileAt L e.1=file)
end Go.Proofs.YtjccmcgglfncdaaGreatDoor
