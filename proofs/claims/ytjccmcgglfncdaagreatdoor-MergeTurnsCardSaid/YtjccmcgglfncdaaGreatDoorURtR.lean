/- What is proved: MergeTurns, for every input; of the listed tables the walk needs the powers of ten. -/
import Derived.Test.YtjccmcgglfncdaaGreatDoorUNmP
set_option linter.unusedVariables false
set_option linter.unusedSimpArgs false
namespace Go.Proofs.YtjccmcgglfncdaaGreatDoor
open Go
variable{L:List PatchM}{p:PatchM}
def OneId(L:List PatchM):Prop:=(L.map (·.id)).Nodup
theorem one_nil:OneId []:=List.nodup_nil
theorem hasM_ids{q:PidM}:hasM L q=true↔q∈L.map (·.id):=by unfold hasM;rw [List.any_eq_true,List.mem_map];simp
theorem one_snoc(h:OneId L)(hp:hasM L p.id=false):OneId (L++[p]):=by unfold OneId at h ⊢;rw [List.map_append,List.map_cons,List.map_nil];refine List.nodup_append.2 ⟨h,by simp,fun a ha b hb e => ?_⟩;have hb:=List.mem_singleton.1 hb;subst hb;subst e;rw [hasM_ids.2 ha] at hp;cases hp
theorem one_eq(h:OneId L){q:PatchM}(hp:p∈L)(hq:q∈L)(e:p.id=q.id):p=q:=by
 unfold OneId at h;obtain⟨i,hi⟩:=List.getElem?_of_mem hp;obtain⟨j,hj⟩:=List.getElem?_of_mem hq;have h1:(L.map (·.id))[i]? = some p.id:=by rw [List.getElem?_map,hi];rfl
 have h2:(L.map (·.id))[j]? = some p.id:=by rw [List.getElem?_map,hj,e];rfl
 have:=(List.getElem?_inj (List.getElem?_eq_some_iff.1 h1).1 h).1 (h1.trans h2.symm);subst this;rw [hi] at hj;exact Option.some.inj hj
theorem one_nodup(h:OneId L):L.Nodup:=by unfold OneId List.Nodup at h;rw [List.pairwise_map] at h;exact h.imp fun hab e=>hab (congrArg PatchM.id e)
theorem perm_of{A B:List PatchM}(ha:OneId A)(hb:OneId B)(h:∀ p,p∈A↔p∈B):A.Perm B:=(List.perm_ext_iff_of_nodup (one_nodup ha) (one_nodup hb)).2 h
theorem vertOp_iff(h:OneId L){v:VidM}{o:OpM}:vertOp L v=some o↔∃ p∈L,madeBy p v=some o:=by
 constructor
 · intro ho;unfold vertOp at ho;exact List.exists_of_findSome?_eq_some ho
 rintro⟨p,hp,hm⟩;cases hc:vertOp L v with
 | none =>unfold vertOp at hc;rw [List.findSome?_eq_none_iff] at hc;rw [hc p hp] at hm;cases hm
 | some o2 =>
  unfold vertOp at hc;obtain⟨q,hq,hm2⟩:=List.exists_of_findSome?_eq_some hc;have e:p=q:=by
   refine one_eq h hp hq ?_;unfold madeBy at hm hm2;split at hm
   ·
    rename_i e1;split at hm2
    · rename_i e2;rw [e1,e2]
    cases hm2
   cases hm
  subst e;rw [hm] at hm2;exact hm2.symm
section
variable {A B : List PatchM}
theorem vertOp_same(ha:OneId A)(hb:OneId B)(h:∀ p,p∈A↔p∈B)(v:VidM):vertOp A v=vertOp B v:=by refine Option.ext fun o => ?_;rw [vertOp_iff ha,vertOp_iff hb];exact⟨fun⟨p,hp,hm⟩=>⟨p,(h p).1 hp,hm⟩,fun⟨p,hp,hm⟩=>⟨p,(h p).2 hp,hm⟩⟩
theorem any_same{f:PatchM→Bool}(h:∀ p,p∈A↔p∈B):A.any f=B.any f:=by rw [Bool.eq_iff_iff,List.any_eq_true,List.any_eq_true];exact⟨fun⟨p,hp,hm⟩=>⟨p,(h p).1 hp,hm⟩,fun⟨p,hp,hm⟩=>⟨p,(h p).2 hp,hm⟩⟩
theorem vertM_same(ha:OneId A)(hb:OneId B)(h:∀ p,p∈A↔p∈B):vertM A=vertM B:=by funext v;unfold vertM;rw [vertOp_same ha hb h];have:deadM A v=deadM B v:=any_same h;rw [this]
theorem vecM_same(ha:OneId A)(hb:OneId B)(h:∀ p,p∈A↔p∈B):vecM A=vecM B:=by funext a;unfold vecM;exact((perm_of ha hb h).filter _).length_eq
theorem hasM_same(h:∀ p,p∈A↔p∈B):hasM A=hasM B:=by funext q;exact any_same h
theorem idsM_same(ha:OneId A)(hb:OneId B)(h:∀ p,p∈A↔p∈B)(hla:∀ p∈A,p.ops.length≤200)(hlb:∀ p∈B,p.ops.length≤200):idsM A=idsM B:=by refine rises_ext (key:=packVid) (rises_setS packVid_hi _) (rises_setS packVid_hi _) fun v => ?_;show v∈idsM A↔v∈idsM B;rw [mem_idsM hla,mem_idsM hlb,vertM_same ha hb h]
theorem hasE_same(h:∀ p,p∈A↔p∈B):hasE A=hasE B:=by funext e;exact any_same h
theorem edgesM_same(h:∀ p,p∈A↔p∈B):edgesM A=edgesM B:=by refine rises_ext (key:=edgeKey) (rises_setS edgeKey_hi _) (rises_setS edgeKey_hi _) fun e => ?_;show e∈edgesM A↔e∈edgesM B;rw [mem_edgesM,mem_edgesM,hasE_same h]
end
theorem check_up{A B:List PatchM}(hwa:WfG A)(hwb:WfG B)(hb:OneId B)(h:∀ p∈A,p∈B)(hc:checkM A p=0)(hn:hasM B p.id=false):checkM B p=0:=by
 have hk:=check_ok hc
 obtain⟨n1,n2,n3⟩:=next_parts (goodP_id hk.good) hk.next
 have hup:∀ q,hasM A q=true→hasM B q=true:=fun q hq=>by unfold hasM at hq ⊢;obtain⟨x,hx,hm⟩:=List.any_eq_true.1 hq;exact List.any_eq_true.2 ⟨x,h x hx,hm⟩
 have hvec:vecM B p.id.author=vecM A p.id.author:=by
  have h1:vecM A p.id.author≤vecM B p.id.author:=by
   rcases Nat.eq_zero_or_pos (vecM A p.id.author) with e|e
   · omega
   have hv:(UInt16.ofNat (vecM A p.id.author)).toNat=vecM A p.id.author:=(by simp;omega);have:=hup ⟨p.id.author,UInt16.ofNat (vecM A p.id.author)⟩ ((hwa.has _).2 ⟨n1,by show 1≤(UInt16.ofNat (vecM A p.id.author)).toNat;omega,by show(UInt16.ofNat (vecM A p.id.author)).toNat≤_;rw [hv];exact Nat.le_refl _⟩);have:=((hwb.has _).1 this).2.2;rw [show(⟨p.id.author,UInt16.ofNat (vecM A p.id.author)⟩:PidM).seq.toNat=vecM A p.id.author from hv] at this;exact this
  rcases Nat.eq_or_lt_of_le h1 with e|e
  · exact e.symm
  have:hasM B p.id=true:=(hwb.has _).2 ⟨n1,by omega,by omega⟩;rw [this] at hn;cases hn
 have hnext:nextM B p.id.author=p.id:=by have:=hk.next;unfold nextM at this ⊢;rw [hvec];exact this
 have hdeps:(p.deps.all fun d=>hasM B d)=true:=List.all_eq_true.2 fun d hd=>hup d (hk.deps d hd)
 have hvert:∀ v,hasM A v.pid=true→∃ hd:Bool,∀ x,vertM A v=some x→vertM B v=some {x with dead:=hd}:=fun v hv=>by refine⟨deadM B v,fun x hx => ?_⟩;unfold vertM at hx ⊢;obtain⟨o,ho,e⟩:=Option.map_eq_some_iff.1 hx;have h1:=List.exists_of_findSome?_eq_some (show A.findSome? (fun p=>madeBy p v)=some o from ho);obtain⟨q,hq,hm⟩:=h1;rw [(vertOp_iff hb).2 ⟨q,h q hq,hm⟩,← e];rfl
 have hvkf:∀ v,hasM A v.pid=true→(vertM A v).map (fun x=>(x.kind,x.file))=(vertM B v).map (fun x=>(x.kind,x.file))∨vertM A v=none:=fun v hv=>by
  cases hx:vertM A v with
  | none=>exact .inr rfl
  | some x =>obtain⟨hd,h2⟩:=hvert v hv;rw [h2 x hx];exact .inl rfl
 have hrefs:(p.ops.all fun o=>refMet (B++[p]) o)=true:=List.all_eq_true.2 fun o ho=>by
  have h1:=hk.refs o ho
  have hkd:=kind_of hk.good ho
  have hkd':o.kind=1∨o.kind=2∨o.kind=3∨o.kind=4∨o.kind=5:=by
   rcases hkd with q|q|q|q|q
   · exact .inl q
   · exact .inr (.inl q)
   · exact .inr (.inr (.inl q))
   · exact .inr (.inr (.inr (.inl q)))
   exact .inr (.inr (.inr (.inr q.1)))
  rw [← refs_same hk.new hkd'] at h1
  rw [← refs_same hn hkd']
  -- what an operation names is there
  have hlook:∀ v x,lookM A p v=some x→∃ y,lookM B p v=some y∧y.kind=x.kind∧y.file=x.file:=by
   intro v x hx;unfold lookM at hx ⊢;split at hx
   · rename_i e;rw [if_pos e];exact⟨x,hx,rfl,rfl⟩
   rename_i e;rw [if_neg e];have hv:hasM A v.pid=true:=by
    unfold vertM at hx;obtain⟨o2,ho2,_⟩:=Option.map_eq_some_iff.1 hx;obtain⟨q,hq,hm⟩:=List.exists_of_findSome?_eq_some (show A.findSome? (fun p=>madeBy p v)=some o2 from ho2);unfold madeBy at hm;split at hm
    · rename_i e2;rw [← e2];exact hasM_of_mem hq
    cases hm
   obtain⟨hd,h2⟩:=hvert v hv;exact⟨_,h2 x hx,rfl,rfl⟩
  have hisK:∀ v k,isK (lookM A p v) k=true→isK (lookM B p v) k=true:=by
   intro v k hv;cases hx:lookM A p v with
   | none=>rw [hx] at hv;cases hv
   | some x =>obtain⟨y,hy,e1,_⟩:=hlook v x hx;rw [hx] at hv;rw [hy];show(y.kind == k)=true;rw [e1];exact hv
  unfold refsB at h1 ⊢
  split at h1
  ·
   rename_i e
   rw [if_pos e]
   exact hisK _ _ h1
  rename_i e
  rw [if_neg e]
  split at h1
  ·
   rename_i e2
   rw [if_pos e2]
   cases hx:lookM A p o.at' with
   | none=>rw [hx] at h1;cases h1
   | some x =>
    obtain⟨y,hy,_,_⟩:=hlook _ x hx
    rw [hy];rfl
  rename_i e2
  rw [if_neg e2]
  split at h1
  ·
   rename_i e3
   rw [if_pos e3]
   simp only [Bool.and_eq_true,decide_eq_true_eq] at h1 ⊢
   refine⟨hisK _ _ h1.1,hisK _ _ h1.2.1,?_⟩
   cases hx:lookM A p o.at' with
   | none=>have:=h1.1;rw [hx] at this;cases this
   | some x =>
    cases hx2:lookM A p o.to with
    | none=>have:=h1.2.1;rw [hx2] at this;cases this
    | some x2 =>
     obtain⟨y,hy,_,f1⟩:=hlook _ x hx
     obtain⟨y2,hy2,_,f2⟩:=hlook _ x2 hx2
     have h3:=h1.2.2
     rw [hx,hx2] at h3
     rw [hy,hy2]
     show some y.file=some y2.file
     rw [f1,f2];exact h3
  rename_i e3
  rw [if_neg e3]
 unfold checkM
 rw [hk.good,hn,hdeps,hrefs,if_neg (by decide),if_neg (by decide),if_neg (fun q=>q hnext),if_neg (by decide),if_neg (by decide)]
end Go.Proofs.YtjccmcgglfncdaaGreatDoor
namespace Go.Proofs.YtjccmcgglfncdaaGreatDoor
open Go
end Go.Proofs.YtjccmcgglfncdaaGreatDoor
namespace Go.Proofs.YtjccmcgglfncdaaGreatDoor
open Go
section
variable {A B : List PatchM}
theorem vertsM_same(ha:OneId A)(hb:OneId B)(h:∀ p,p∈A↔p∈B)(hla:∀ p∈A,p.ops.length≤200)(hlb:∀ p∈B,p.ops.length≤200):vertsM A=vertsM B:=by unfold vertsM;rw [idsM_same ha hb h hla hlb,vertM_same ha hb h]
theorem graph_same(ha:OneId A)(hb:OneId B)(h:∀ p,p∈A↔p∈B)(hla:∀ p∈A,p.ops.length≤200)(hlb:∀ p∈B,p.ops.length≤200):linesM A=linesM B∧relM A=relM B∧filesM A=filesM B∧allM A=allM B:=by
 have hv:=vertsM_same ha hb h hla hlb;have hm:=vertM_same ha hb h;have he:=edgesM_same h;have hof:ofM A=ofM B:=by funext f k;unfold ofM;rw [hv]
 have hl:linesM A=linesM B:=by funext f;unfold linesM;rw [hof]
 have hfa:fileAt A=fileAt B:=by funext v;unfold fileAt;rw [hm]
 have hst:stepsM A=stepsM B:=by funext f;unfold stepsM;rw [he,hfa]
 have hr:relM A=relM B:=by funext f;unfold relM;rw [hst,hl]
 have hf:filesM A=filesM B:=by unfold filesM;rw [hv]
 have hal:aliveM A=aliveM B:=by funext f;unfold aliveM;rw [hof]
 have hn:namesM A=namesM B:=by funext f;unfold namesM;rw [hal,hm]
 have hd:deadAt A=deadAt B:=by funext f;unfold deadAt;rw [hm]
 have h1:nameOne A=nameOne B:=by funext c f l;cases l <;> rfl
 have hs:stepN A=stepN B:=by funext s f;unfold stepN;rw [hd,hn,h1]
 refine⟨hl,hr,hf,?_⟩;unfold allM allTo;rw [hf,hs]
end
end Go.Proofs.YtjccmcgglfncdaaGreatDoor
