/- What is proved: PlanGives and MergeKeeps, for every input; of the listed tables the walk needs the powers of ten. -/
import Derived.Test.YtjccmcgglfncdaaGreatDoorBNmP
set_option linter.unusedVariables false
set_option linter.unusedSimpArgs false
namespace Go.Proofs.YtjccmcgglfncdaaGreatDoor
open Go
variable{L:List PatchM}{p:PatchM}
def OneId(L:List PatchM):Prop:=(L.map (·.id)).Nodup
theorem one_nil:OneId []:=List.nodup_nil
theorem hasM_ids{q:PidM}:hasM L q=true↔q∈L.map (·.id):=by unfold hasM;rw [List.any_eq_true,List.mem_map];simp
theorem one_snoc(h:OneId L)(hp:hasM L p.id=false):OneId (L++[p]):=by unfold OneId at h ⊢;rw [List.map_append,List.map_cons,List.map_nil];refine List.nodup_append.2 ⟨h,by simp,fun a ha b hb e => ?_⟩;have hb:=List.mem_singleton.1 hb;subst hb;subst e;rw [hasM_ids.2 ha] at hp;cases hp
theorem one_eq(h:OneId L){q:PatchM}(hp:p∈L)(hq:q∈L)(e:p.id=q.id):p=q:=by
 unfold OneId at h;obtain⟨i,hi⟩:=List.getElem?_of_mem hp;obtain⟨j,hj⟩:=List.getElem?_of_mem hq;have h1:(L.map (·.id))[i]? = some p.id:=by rw [List.getElem?_map,hi];rfl
 have h2:(L.map (·.id))[j]? = some p.id:=by rw [List.getElem?_map,hj,e];rfl
 have:=(List.getElem?_inj (List.getElem?_eq_some_iff.1 h1).1 h).1 (h1.trans h2.symm);subst this;rw [hi] at hj;exact Option.some.inj hj
theorem vertOp_iff(h:OneId L){v:VidM}{o:OpM}:vertOp L v=some o↔∃ p∈L,madeBy p v=some o:=by
 constructor
 · intro ho;unfold vertOp at ho;exact List.exists_of_findSome?_eq_some ho
 rintro⟨p,hp,hm⟩;cases hc:vertOp L v with
 | none =>unfold vertOp at hc;rw [List.findSome?_eq_none_iff] at hc;rw [hc p hp] at hm;cases hm
 | some o2 =>
  unfold vertOp at hc;obtain⟨q,hq,hm2⟩:=List.exists_of_findSome?_eq_some hc;have e:p=q:=by
   refine one_eq h hp hq ?_;unfold madeBy at hm hm2;split at hm
   ·
    rename_i e1;split at hm2
    · rename_i e2;rw [e1,e2]
    cases hm2
   cases hm
  subst e;rw [hm] at hm2;exact hm2.symm
section
variable {A B : List PatchM}
end
theorem check_up{A B:List PatchM}(hwa:WfG A)(hwb:WfG B)(hb:OneId B)(h:∀ p∈A,p∈B)(hc:checkM A p=0)(hn:hasM B p.id=false):checkM B p=0:=by
 have hk:=check_ok hc
 obtain⟨n1,n2,n3⟩:=next_parts (goodP_id hk.good) hk.next
 have hup:∀ q,hasM A q=true→hasM B q=true:=fun q hq=>by unfold hasM at hq ⊢;obtain⟨x,hx,hm⟩:=List.any_eq_true.1 hq;exact List.any_eq_true.2 ⟨x,h x hx,hm⟩
 have hvec:vecM B p.id.author=vecM A p.id.author:=by
  have h1:vecM A p.id.author≤vecM B p.id.author:=by
   rcases Nat.eq_zero_or_pos (vecM A p.id.author) with e|e
   · omega
   have hv:(UInt16.ofNat (vecM A p.id.author)).toNat=vecM A p.id.author:=(by simp;omega);have:=hup ⟨p.id.author,UInt16.ofNat (vecM A p.id.author)⟩ ((hwa.has _).2 ⟨n1,by show 1≤(UInt16.ofNat (vecM A p.id.author)).toNat;omega,by show(UInt16.ofNat (vecM A p.id.author)).toNat≤_;rw [hv];exact Nat.le_refl _⟩);have:=((hwb.has _).1 this).2.2;rw [show(⟨p.id.author,UInt16.ofNat (vecM A p.id.author)⟩:PidM).seq.toNat=vecM A p.id.author from hv] at this;exact this
  rcases Nat.eq_or_lt_of_le h1 with e|e
  · exact e.symm
  have:hasM B p.id=true:=(hwb.has _).2 ⟨n1,by omega,by omega⟩;rw [this] at hn;cases hn
 have hnext:nextM B p.id.author=p.id:=by have:=hk.next;unfold nextM at this ⊢;rw [hvec];exact this
 have hdeps:(p.deps.all fun d=>hasM B d)=true:=List.all_eq_true.2 fun d hd=>hup d (hk.deps d hd)
 have hvert:∀ v,hasM A v.pid=true→∃ hd:Bool,∀ x,vertM A v=some x→vertM B v=some {x with dead:=hd}:=fun v hv=>by refine⟨deadM B v,fun x hx => ?_⟩;unfold vertM at hx ⊢;obtain⟨o,ho,e⟩:=Option.map_eq_some_iff.1 hx;have h1:=List.exists_of_findSome?_eq_some (show A.findSome? (fun p=>madeBy p v)=some o from ho);obtain⟨q,hq,hm⟩:=h1;rw [(vertOp_iff hb).2 ⟨q,h q hq,hm⟩,← e];rfl
 have hvkf:∀ v,hasM A v.pid=true→(vertM A v).map (fun x=>(x.kind,x.file))=(vertM B v).map (fun x=>(x.kind,x.file))∨vertM A v=none:=fun v hv=>by
  cases hx:vertM A v with
  | none=>exact .inr rfl
  | some x =>obtain⟨hd,h2⟩:=hvert v hv;rw [h2 x hx];exact .inl rfl
 have hrefs:(p.ops.all fun o=>refMet (B++[p]) o)=true:=List.all_eq_true.2 fun o ho=>by
  have h1:=hk.refs o ho
  have hkd:=kind_of hk.good ho
  have hkd':o.kind=1∨o.kind=2∨o.kind=3∨o.kind=4∨o.kind=5:=by
   rcases hkd with q|q|q|q|q
   · exact .inl q
   · exact .inr (.inl q)
   · exact .inr (.inr (.inl q))
   · exact .inr (.inr (.inr (.inl q)))
   exact .inr (.inr (.inr (.inr q.1)))
  rw [← refs_same hk.new hkd'] at h1
  rw [← refs_same hn hkd']
  -- what an operation names is there
  have hlook:∀ v x,lookM A p v=some x→∃ y,lookM B p v=some y∧y.kind=x.kind∧y.file=x.file:=by
   intro v x hx;unfold lookM at hx ⊢;split at hx
   · rename_i e;rw [if_pos e];exact⟨x,hx,rfl,rfl⟩
   rename_i e;rw [if_neg e];have hv:hasM A v.pid=true:=by
    unfold vertM at hx;obtain⟨o2,ho2,_⟩:=Option.map_eq_some_iff.1 hx;obtain⟨q,hq,hm⟩:=List.exists_of_findSome?_eq_some (show A.findSome? (fun p=>madeBy p v)=some o2 from ho2);unfold madeBy at hm;split at hm
    · rename_i e2;rw [← e2];exact hasM_of_mem hq
    cases hm
   obtain⟨hd,h2⟩:=hvert v hv;exact⟨_,h2 x hx,rfl,rfl⟩
  have hisK:∀ v k,isK (lookM A p v) k=true→isK (lookM B p v) k=true:=by
   intro v k hv;cases hx:lookM A p v with
   | none=>rw [hx] at hv;cases hv
   | some x =>obtain⟨y,hy,e1,_⟩:=hlook v x hx;rw [hx] at hv;rw [hy];show(y.kind == k)=true;rw [e1];exact hv
  unfold refsB at h1 ⊢
  split at h1
  ·
   rename_i e
   rw [if_pos e]
   exact hisK _ _ h1
  rename_i e
  rw [if_neg e]
  split at h1
  ·
   rename_i e2
   rw [if_pos e2]
   cases hx:lookM A p o.at' with
   | none=>rw [hx] at h1;cases h1
   | some x =>
    obtain⟨y,hy,_,_⟩:=hlook _ x hx
    rw [hy];rfl
  rename_i e2
  rw [if_neg e2]
  split at h1
  ·
   rename_i e3
   rw [if_pos e3]
   simp only [Bool.and_eq_true,decide_eq_true_eq] at h1 ⊢
   refine⟨hisK _ _ h1.1,hisK _ _ h1.2.1,?_⟩
   cases hx:lookM A p o.at' with
   | none=>have:=h1.1;rw [hx] at this;cases this
   | some x =>
    cases hx2:lookM A p o.to with
    | none=>have:=h1.2.1;rw [hx2] at this;cases this
    | some x2 =>
     obtain⟨y,hy,_,f1⟩:=hlook _ x hx
     obtain⟨y2,hy2,_,f2⟩:=hlook _ x2 hx2
     have h3:=h1.2.2
     rw [hx,hx2] at h3
     rw [hy,hy2]
     show some y.file=some y2.file
     rw [f1,f2];exact h3
  rename_i e3
  rw [if_neg e3]
 unfold checkM
 rw [hk.good,hn,hdeps,hrefs,if_neg (by decide),if_neg (by decide),if_neg (fun q=>q hnext),if_neg (by decide),if_neg (by decide)]
end Go.Proofs.YtjccmcgglfncdaaGreatDoor
namespace Go.Proofs.YtjccmcgglfncdaaGreatDoor
open Go
end Go.Proofs.YtjccmcgglfncdaaGreatDoor
namespace Go.Proofs.YtjccmcgglfncdaaGreatDoor
open Go
section
variable {A B : List PatchM}
end
end Go.Proofs.YtjccmcgglfncdaaGreatDoor
