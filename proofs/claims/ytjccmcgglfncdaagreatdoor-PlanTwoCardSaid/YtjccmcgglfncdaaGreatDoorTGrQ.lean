/- What is proved: PlanTwo, for every input; of the listed tables the walk needs the powers of ten. -/
import Derived.Test.YtjccmcgglfncdaaGreatDoorTGrP
set_option linter.unusedVariables false
set_option linter.unusedSimpArgs false
namespace Go.Proofs.YtjccmcgglfncdaaGreatDoor
open Go Go.RowKit
variable{L:List PatchM}{i:Nat}{o:OpM}{p:PatchM}{id:PidM}{v:VidM}
structure WfG (L:List PatchM):Prop where
 good:∀ p∈L,goodP p=true
 vec:∀ a,vecM L a≤60000
 none:∀ a,authorOk a=false→vecM L a=0
 has:∀ q:PidM,hasM L q=true↔authorOk q.author=true∧1≤q.seq.toNat∧q.seq.toNat≤vecM L q.author
 refs:∀ q∈L,∀ o∈q.ops,∀ v∈refsM o,hasM L v.pid=true
 kinds:∀ q∈L,∀ o∈q.ops,refMet L o=true
theorem hasM_snoc(L:List PatchM)(p:PatchM)(q:PidM):hasM (L++[p]) q=(hasM L q || decide (p.id=q)):=by unfold hasM;simp
theorem vecM_snoc(L:List PatchM)(p:PatchM)(a:UInt8):vecM (L++[p]) a=vecM L a+(if p.id.author=a then 1 else 0):=by
 unfold vecM;rw [List.filter_append,List.length_append]
 by_cases h:p.id.author=a <;> simp [h]
structure CheckOk (L:List PatchM) (p:PatchM):Prop where
 good:goodP p=true
 new:hasM L p.id=false
 next:nextM L p.id.author=p.id
 deps:∀ d∈p.deps,hasM L d=true
 refs:∀ o∈p.ops,refMet (L++[p]) o=true
theorem check_ok(h:checkM L p=0):CheckOk L p:=by
 unfold checkM at h;split at h
 · simp at h
 rename_i h1;split at h
 · simp at h
 rename_i h2;split at h
 · simp at h
 rename_i h3;split at h
 · simp at h
 rename_i h4;split at h
 · simp at h
 rename_i h5;simp only [Bool.not_eq_false] at h1 h2 h3 h4 h5;refine⟨h1,by simpa using h2,Decidable.of_not_not h3,fun d hd=>List.all_eq_true.1 h4 d hd,fun o ho=>List.all_eq_true.1 h5 o ho⟩
theorem goodP_id(h:goodP p=true):goodPid p.id=true:=by unfold goodP at h;simp at h;exact h.1
theorem goodP_len(h:goodP p=true):1≤p.ops.length∧p.ops.length≤200:=by unfold goodP at h;simp at h;exact⟨h.2.1,h.2.2.1⟩
theorem goodP_deps(h:goodP p=true):p.deps=depsM p.id p.ops:=by unfold goodP at h;simp at h;exact h.2.2.2.1
theorem goodP_one(h:goodP p=true)(ho:p.ops[i]? = some o):oneB p i o=true:=by unfold goodP at h;simp only [Bool.and_eq_true] at h;have:=List.all_eq_true.1 h.2.2.2.2 i (List.mem_range.2 (List.getElem?_eq_some_iff.1 ho).1);rw [ho] at this;exact this
theorem oneB_parts(h:oneB p i o=true):opGood p.id i o=true∧laterB p.id o=false∧¬ (4≤o.kind.toNat∧o∈p.ops.take i)∧kindsB p o=true:=by unfold oneB at h;simp only [Bool.and_eq_true,Bool.not_eq_true'] at h;refine⟨h.1,h.2.1,?_,h.2.2.2⟩;have:=h.2.2.1;rintro⟨h1,h2⟩;simp [h1,h2] at this
theorem opGood_refs(h:opGood id i o=true)(hv:v∈refsM o):goodVid v=true∧(v.pid=id→v.n.toNat<i):=by unfold opGood at h;simp only [Bool.and_eq_true] at h;have:=List.all_eq_true.1 h.1 v hv;unfold refOk at this;simp at this;exact⟨this.1,fun e=>(this.2).resolve_left (fun h=>h e)⟩
theorem opGood_tail(h:opGood id i o=true):opTail id o=true:=by unfold opGood at h;simp only [Bool.and_eq_true] at h;exact h.2
theorem opTail_kind(h:opTail id o=true):o.kind=1∨o.kind=2∨o.kind=3∨o.kind=4∨(o.kind=5∧o.at'.pid≠id):=by
 unfold opTail at h;split at h
 · left;assumption
 split at h
 · right;left;assumption
 split at h
 · right;right;left;assumption
 split at h
 · right;right;right;left;assumption
 split at h
 · rename_i h5;simp at h;exact .inr (.inr (.inr (.inr ⟨h5,h.1⟩)))
 cases h
theorem refs_at_mem(h:o.kind=2∨o.kind=3∨o.kind=4∨o.kind=5):o.at'∈refsM o:=by unfold refsM;rcases h with h|h|h|h <;> simp [h]
theorem refs_to_mem(h:o.kind=4):o.to∈refsM o:=by unfold refsM;simp [h]
theorem packPid_hi(a b:PidM)(h:packPid a=packPid b):a=b:=packPid_inj h
theorem mem_deps{ops:List OpM}(ho:o∈ops)(hv:v∈refsM o)(hn:v.pid≠id):v.pid∈depsM id ops:=by unfold depsM;rw [mem_setS packPid_hi];unfold depsOf;refine List.mem_append.2 (.inr (List.mem_flatMap.2 ⟨o,ho,List.mem_map.2 ⟨v,List.mem_filter.2 ⟨hv,by simpa using hn⟩,rfl⟩⟩))
theorem next_parts{p:PidM}(hg:goodPid p=true)(h:nextM L p.author=p):authorOk p.author=true∧vecM L p.author<60000∧p.seq.toNat=vecM L p.author+1:=by
 unfold nextM at h;split at h
 ·
  rename_i hc;refine⟨hc.1,hc.2,?_⟩;have:p.seq=UInt16.ofNat (vecM L p.author+1):=by have:=congrArg PidM.seq h;exact this.symm
  rw [this];simp;omega
 rw [← h] at hg;exact absurd hg (by decide)
theorem vertOp_snoc(L:List PatchM)(p:PatchM)(v:VidM):vertOp (L++[p]) v=(vertOp L v).or (madeBy p v):=by unfold vertOp;rw [List.findSome?_append];simp [List.findSome?];cases madeBy p v <;> rfl
theorem madeBy_far(h:v.pid≠p.id):madeBy p v=none:=by unfold madeBy;rw [if_neg (fun e=>h e.symm)]
theorem vertOp_none(h:hasM L v.pid=false):vertOp L v=none:=by unfold vertOp;rw [List.findSome?_eq_none_iff];intro p hp;refine madeBy_far fun e => ?_;have:hasM L v.pid=true:=List.any_eq_true.2 ⟨p,hp,by simp [e]⟩;rw [h] at this;cases this
theorem vertM_isSome(L:List PatchM)(v:VidM):(vertM L v).isSome=(vertOp L v).isSome:=by unfold vertM;simp
theorem hasM_of_mem(h:p∈L):hasM L p.id=true:=List.any_eq_true.2 ⟨p,h,by simp⟩
def lookM(L:List PatchM)(p:PatchM)(v:VidM):Option VertM:=if v.pid=p.id then(madeBy p v).map fun o=>⟨v,o.kind,fileOf v o,o.text,false⟩ else vertM L v
theorem look_op(hn:hasM L p.id=false)(v:VidM):vertOp (L++[p]) v=if v.pid=p.id then madeBy p v else vertOp L v:=by
 rw [vertOp_snoc];split
 · rename_i h;rw [vertOp_none (by rw [h];exact hn)];rfl
 rename_i h;rw [madeBy_far h];cases vertOp L v <;> rfl
theorem look_kf(hn:hasM L p.id=false)(v:VidM) :
  (lookM L p v).map (fun x=>(x.kind,x.file))=(vertM (L++[p]) v).map (fun x=>(x.kind,x.file)):=by
 unfold vertM;rw [look_op hn];unfold lookM;split
 · cases madeBy p v <;> rfl
 unfold vertM;cases vertOp L v <;> rfl
def isK(x:Option VertM)(k:UInt8):Bool:=match x with|some x=>x.kind == k|none=>false
def refsB(L:List PatchM)(p:PatchM)(o:OpM):Bool:=
 if o.kind=2∨o.kind=3 then isK (lookM L p o.at') 1
 else if o.kind=5 then(lookM L p o.at').isSome
 else if o.kind=4 then isK (lookM L p o.at') 3 && (isK (lookM L p o.to) 3 && decide ((lookM L p o.at').map (·.file)=(lookM L p o.to).map (·.file)))
 else true
theorem map_parts{x y:Option VertM}(h:x.map (fun x=>(x.kind,x.file))=y.map (fun x=>(x.kind,x.file))):(∀ k,isK x k=isK y k)∧x.map (·.file)=y.map (·.file)∧x.isSome=y.isSome:=by cases x <;> cases y <;> simp_all [isK]
theorem refs_same(hn:hasM L p.id=false)(hk:o.kind=1∨o.kind=2∨o.kind=3∨o.kind=4∨o.kind=5):refsB L p o=refMet (L++[p]) o:=by obtain⟨a1,a2,a3⟩:=map_parts (look_kf hn o.at');obtain⟨b1,b2,b3⟩:=map_parts (look_kf hn o.to);have hi:∀ v k,isKind (L++[p]) v k=isK (vertM (L++[p]) v) k:=fun v k=>rfl;unfold refsB refMet;rw [hi,hi,hi];rw [a1,a2,a3,b2,a1,b1];rcases hk with h|h|h|h|h <;> simp [h]
theorem wf_nil:WfG []:=by refine⟨fun p h=>by simp at h,fun a=>by simp [vecM],fun a _=>by simp [vecM],fun q => ?_,fun q h=>by simp at h,fun q h=>by simp at h⟩;simp [hasM,vecM];omega
theorem deadM_snoc(L:List PatchM)(p:PatchM)(v:VidM):deadM (L++[p]) v=(deadM L v || p.ops.any fun o=>decide (o.kind=5) && decide (o.at'=v)):=by unfold deadM;simp
theorem old_kf(hn:hasM L p.id=false)(hv:hasM L v.pid=true):(vertM (L++[p]) v).map (fun x=>(x.kind,x.file))=(vertM L v).map (fun x=>(x.kind,x.file)):=by
 have:v.pid≠p.id:=fun e=>by rw [e,hn] at hv;cases hv
 unfold vertM;rw [look_op hn,if_neg this];cases vertOp L v <;> rfl
theorem kind_of(hg:goodP p=true)(ho:o∈p.ops):o.kind=1∨o.kind=2∨o.kind=3∨o.kind=4∨(o.kind=5∧o.at'.pid≠p.id):=by obtain⟨i,hi⟩:=List.mem_iff_getElem?.1 ho;exact opTail_kind (opGood_tail (oneB_parts (goodP_one hg hi)).1)
theorem refMet_old(hn:hasM L p.id=false)(hv:∀ v∈refsM o,hasM L v.pid=true)(h:refMet L o=true):refMet (L++[p]) o=true:=by
 have key:∀ v∈refsM o,(∀ k,isKind (L++[p]) v k=isKind L v k)∧(vertM (L++[p]) v).map (·.file)=(vertM L v).map (·.file)∧(vertM (L++[p]) v).isSome=(vertM L v).isSome:=fun v hm=>map_parts (old_kf hn (hv v hm));unfold refMet at h ⊢;split
 · rfl
 rename_i h1;rw [if_neg h1] at h;split
 · rename_i h2;rw [if_pos h2] at h;obtain⟨k1,_,_⟩:=key o.at' (refs_at_mem (by rcases h2 with h|h <;> simp [h]));rw [k1];exact h
 rename_i h2;rw [if_neg h2] at h;split
 · rename_i h4;rw [if_pos h4] at h;obtain⟨k1,k2,_⟩:=key o.at' (refs_at_mem (by simp [h4]));obtain⟨t1,t2,_⟩:=key o.to (refs_to_mem h4);rw [k1,t1,k2,t2];exact h
 rename_i h4;rw [if_neg h4] at h
 by_cases h5:o.kind=5
 · obtain⟨_,_,k3⟩:=key o.at' (refs_at_mem (by simp [h5]));rw [k3];exact h
 rw [vertM_isSome,vertOp_snoc];rw [vertM_isSome] at h;cases hx:vertOp L o.at' with
 | none=>rw [hx] at h;cases h
 | some y=>rfl
theorem wf_snoc(hw:WfG L)(hc:CheckOk L p):WfG (L++[p]):=by
 obtain⟨n1,n2,n3⟩:=next_parts (goodP_id hc.good) hc.next;have hrefs:∀ q∈L++[p],∀ o∈q.ops,∀ v∈refsM o,hasM (L++[p]) v.pid=true:=by
  intro q hq o ho v hv;rw [hasM_snoc,Bool.or_eq_true];rcases List.mem_append.1 hq with hq|hq
  · exact .inl (hw.refs q hq o ho v hv)
  rw [List.mem_singleton] at hq;subst hq
  by_cases he:v.pid=q.id
  · exact .inr (by simp [he])
  exact .inl (hc.deps _ (by rw [goodP_deps hc.good];exact mem_deps ho hv he))
 refine⟨fun q hq => ?_,fun a => ?_,fun a ha => ?_,fun q => ?_,hrefs,fun q hq o ho => ?_⟩
 ·
  rcases List.mem_append.1 hq with hq|hq
  · exact hw.good q hq
  rw [List.mem_singleton] at hq;rw [hq];exact hc.good
 ·
  rw [vecM_snoc];have:=hw.vec a;split
  · rename_i h;rw [← h];omega
  omega
 ·
  rw [vecM_snoc,hw.none a ha];split
  · rename_i h;rw [h] at n1;rw [n1] at ha;cases ha
  rfl
 ·
  rw [hasM_snoc,Bool.or_eq_true,hw.has,vecM_snoc,decide_eq_true_eq];constructor
  ·
   rintro(⟨h1,h2,h3⟩|h)
   · exact⟨h1,h2,by omega⟩
   subst h;exact⟨n1,by omega,by rw [if_pos rfl];omega⟩
  rintro⟨h1,h2,h3⟩;split at h3
  ·
   rename_i h
   by_cases he:q.seq.toNat=vecM L q.author+1
   ·
    right;have e2:p.id.seq=q.seq:=UInt16.toNat_inj.1 (by rw [n3,he,h]);cases hp:p.id
    cases q
    rw [hp] at h e2;simp only at h e2;rw [h,e2]
   exact .inl ⟨h1,h2,by omega⟩
  exact .inl ⟨h1,h2,by omega⟩
 rcases List.mem_append.1 hq with hq|hq
 · exact refMet_old hc.new (fun v hv=>hw.refs q hq o ho v hv) (hw.kinds q hq o ho)
 rw [List.mem_singleton] at hq;subst hq;exact hc.refs o ho
theorem wf_apply(hw:WfG L)(p:PatchM):WfG (applyM L p):=by
 unfold applyM;split
 · rename_i h;exact wf_snoc hw (check_ok h)
 exact hw
theorem wf_foldl:∀(l:List PatchM) {L:List PatchM},WfG L→WfG (l.foldl applyM L)
 | [],_,h=>h
 | p :: l,_,h=>wf_foldl l (wf_apply h p)
theorem wf_build(l:List PatchM):WfG (buildM l):=wf_foldl l wf_nil
end Go.Proofs.YtjccmcgglfncdaaGreatDoor
